/- Ways in plain lists: what a way comes to; joined ways; dots. No program here. -/
import Derived.Test.YtjkephmfpoekgaaDoorModeMay
import Derived.Lib.Replace
namespace Go.Proofs.YtjkephmfpoekgaaDoor.PathLaw
open Go.Proofs.YtjkephmfpoekgaaDoor.CredLaw
set_option linter.unusedVariables false
set_option linter.unusedSimpArgs false
/-! ### pieces of a path -/
def parts : List UInt8 → List (List UInt8)
  | [] => [[]]
  | c :: r => if c = 47 then [] :: parts r else match parts r with
    | [] => [[c]]
    | p :: ps => (c :: p) :: ps
theorem parts_ne (l : List UInt8) : parts l ≠ [] := by
  cases l with
  | nil => simp [parts]
  | cons c r =>
    unfold parts
    split
    · simp
    · cases parts r <;> simp
theorem parts_slash (r : List UInt8) : parts (47 :: r) = [] :: parts r := by rw [parts, if_pos rfl]
theorem parts_cons {c : UInt8} {r : List UInt8} (h : c ≠ 47) : ∃ p ps, parts r = p :: ps ∧ parts (c :: r) = (c :: p) :: ps := by
  obtain ⟨p, ps, hp⟩ := List.exists_cons_of_ne_nil (parts_ne r)
  exact ⟨p, ps, hp, by rw [parts, if_neg h, hp]⟩
theorem parts_append : ∀ a b : List UInt8, parts (a ++ 47 :: b) = parts a ++ parts b
  | [], b => by rw [List.nil_append, parts_slash]; rfl
  | c :: a, b => by
    have ih := parts_append a b
    by_cases h : c = 47
    · subst h
      rw [List.cons_append, parts_slash, parts_slash, ih]; rfl
    · obtain ⟨p, ps, h1, h2⟩ := parts_cons (r := a) h
      obtain ⟨q, qs, h3, h4⟩ := parts_cons (r := a ++ 47 :: b) h
      rw [List.cons_append, h4, h2]
      rw [ih, h1, List.cons_append] at h3
      obtain ⟨rfl, rfl⟩ := List.cons.inj h3
      rfl
theorem parts_one {l : List UInt8} (h : ∀ c ∈ l, c ≠ 47) : parts l = [l] := by
  induction l with
  | nil => rfl
  | cons c r ih =>
    rw [parts, if_neg (h c (List.mem_cons_self ..)), ih fun x hx => h x (List.mem_cons_of_mem _ hx)]
/-- the library's index at a sign -/
theorem index_spec1 : ∀ s : List UInt8, (Lib.index s [47] = -1 ∧ parts s = [s]) ∨ ∃ i : Nat, Lib.index s [47] = i ∧ parts s = s.take i :: parts (s.drop (i + 1)) ∧ i < s.length
  | [] => .inl ⟨rfl, rfl⟩
  | c :: r => by
    by_cases h : c = 47
    · subst h
      refine .inr ⟨0, ?_, ?_, by simp⟩
      · unfold Lib.index; simp [List.isPrefixOf]
      · rw [parts_slash]; simp
    · have hp : List.isPrefixOf [47] (c :: r) = false := by simp [List.isPrefixOf, Ne.symm h]
      obtain ⟨p, ps, h1, h2⟩ := parts_cons (r := r) h
      rcases index_spec1 r with ⟨h3, h4⟩ | ⟨i, h3, h4, h5⟩
      · refine .inl ⟨?_, ?_⟩
        · unfold Lib.index; simp [hp, h3]
        · rw [h2]
          rw [h4] at h1
          obtain ⟨rfl, rfl⟩ := List.cons.inj h1
          rfl
      · refine .inr ⟨i + 1, ?_, ?_, by simpa using h5⟩
        · unfold Lib.index
          rw [hp, h3]
          have : ((i : Int) == -1) = false := by rw [beq_eq_false_iff_ne]; omega
          simp [this]
        · rw [h2]
          rw [h4] at h1
          obtain ⟨rfl, rfl⟩ := List.cons.inj h1
          rfl
theorem splitK_parts : ∀ (n : Nat) (s : List UInt8), s.length ≤ n → Lib.splitK [47] 0 (Lib.count s [47]) s = parts s
  | n, s, hn => by
    rcases index_spec1 s with ⟨h1, h2⟩ | ⟨i, h1, h2, h3⟩
    · rw [Lib.count_miss h1, h2]; rfl
    · rw [Lib.count_hit (by simp) h1, Nat.add_comm, Lib.splitK, if_neg (by rw [h1, beq_iff_eq]; omega), h1, h2]
      have e : ((i : Int)).toNat = i := by omega
      rw [e, Nat.add_zero]
      cases n with
      | zero => omega
      | succ n =>
        have := splitK_parts n (s.drop (i + 1)) (by simp; omega)
        simp only [List.length_cons, List.length_nil, Nat.zero_add]
        rw [this]
theorem splitB_parts (s : ByteArray) : (Lib.splitB ⟨#[47]⟩ 0 (Lib.countB s ⟨#[47]⟩) s).map (·.data.toList) = parts s.data.toList := by
  rw [Lib.splitB_data]
  exact splitK_parts _ _ (Nat.le_refl _)
/-! ### what stands for a sign is put in -/
def new4 : List UInt8 := [47, 47, 46, 47]
def rep : List UInt8 → List UInt8
  | [] => []
  | c :: r => if c = 47 then new4 ++ rep r else c :: rep r
theorem rep_miss {s : List UInt8} (h : Lib.index s [47] = -1) : rep s = s := by
  induction s with
  | nil => rfl
  | cons c r ih =>
    unfold Lib.index at h
    by_cases h47 : c = 47
    · subst h47; simp [List.isPrefixOf] at h
    · rw [rep, if_neg h47, ih]
      have hp : List.isPrefixOf [47] (c :: r) = false := by simp [List.isPrefixOf, Ne.symm h47]
      rw [hp] at h
      by_cases hm : (Lib.index r [47] == -1) = true
      · exact beq_iff_eq.1 hm
      · rw [if_neg hm] at h
        have := Lib.index_ge r [47]
        simp at h
        omega
theorem rep_hit : ∀ {s : List UInt8} {i : Nat}, Lib.index s [47] = i → rep s = s.take i ++ new4 ++ rep (s.drop (i + 1))
  | [], i, h => by simp [Lib.index] at h
  | c :: r, i, h => by
    unfold Lib.index at h
    by_cases h47 : c = 47
    · subst h47
      simp [List.isPrefixOf] at h
      obtain rfl : i = 0 := by omega
      rw [rep, if_pos rfl]
      rfl
    · have hp : List.isPrefixOf [47] (c :: r) = false := by simp [List.isPrefixOf, Ne.symm h47]
      rw [hp] at h
      by_cases hm : (Lib.index r [47] == -1) = true
      · rw [if_neg (by decide), if_pos hm] at h; omega
      · rw [if_neg (by decide), if_neg hm] at h
        have hge := Lib.index_ge r [47]
        have hne : Lib.index r [47] ≠ -1 := fun e => hm (beq_iff_eq.2 e)
        obtain ⟨j, rfl⟩ : ∃ j, i = j + 1 := ⟨i - 1, by omega⟩
        rw [rep, if_neg h47, rep_hit (i := j) (by omega)]
        rfl
theorem replaceK_rep : ∀ (n : Nat) (s : List UInt8), s.length ≤ n → Lib.replaceK [47] new4 (Lib.count s [47]) s = rep s
  | n, s, hn => by
    rcases index_spec1 s with ⟨h1, h2⟩ | ⟨i, h1, h2, h3⟩
    · rw [Lib.count_miss h1, rep_miss h1]; rfl
    · rw [Lib.count_hit (by simp) h1, Nat.add_comm, Lib.replaceK_hit _ _ _ _ _ h1, rep_hit h1]
      cases n with
      | zero => omega
      | succ n =>
        have := replaceK_rep n (s.drop (i + 1)) (by simp; omega)
        simp only [List.length_cons, List.length_nil, Nat.zero_add]
        rw [this]
theorem replaceAll_rep (s : List UInt8) : Lib.replaceAll s [47] new4 = rep s := by
  unfold Lib.replaceAll Lib.replace Lib.replaceNum
  rw [if_neg (by decide), if_pos (.inl (by decide))]
  exact replaceK_rep _ _ (Nat.le_refl _)
def inter : List (List UInt8) → List (List UInt8)
  | [] => []
  | [p] => [p]
  | p :: q :: r => p :: [] :: [46] :: inter (q :: r)
theorem parts_rep : ∀ s : List UInt8, parts (rep s) = inter (parts s)
  | [] => rfl
  | c :: r => by
    have ih := parts_rep r
    by_cases h : c = 47
    · subst h
      rw [rep, if_pos rfl, parts_slash]
      obtain ⟨p, ps, hp⟩ := List.exists_cons_of_ne_nil (parts_ne r)
      rw [hp] at ih ⊢
      show parts (47 :: 47 :: 46 :: 47 :: rep r) = [] :: [] :: [46] :: inter (p :: ps)
      rw [parts_slash, parts_slash, ← ih, show (46 : UInt8) :: 47 :: rep r = [46] ++ 47 :: rep r from rfl, parts_append]
      rfl
    · obtain ⟨p, ps, h1, h2⟩ := parts_cons (r := r) h
      obtain ⟨q, qs, h3, h4⟩ := parts_cons (r := rep r) h
      rw [rep, if_neg h, h4, h2]
      rw [ih, h1] at h3
      cases ps with
      | nil =>
        obtain ⟨rfl, rfl⟩ := List.cons.inj h3
        rfl
      | cons p2 ps =>
        obtain ⟨rfl, rfl⟩ := List.cons.inj h3
        rfl
/-! ### strings -/
def mk (l : List UInt8) : ByteArray := ⟨l.toArray⟩
theorem mk_data (b : ByteArray) : mk b.data.toList = b := rfl
def full (l : List (List UInt8)) : List ByteArray := (l.filter (fun p => !p.isEmpty)).map mk
theorem full_append (a b : List (List UInt8)) : full (a ++ b) = full a ++ full b := by simp [full]
def splitT (s : List UInt8) : Bool × List ByteArray × Int :=
  if 64 < s.length then (false, [], 2) else if s = [] then (false, [], 3) else if (parts s).all (fun p => decide (p.length ≤ 14)) then (s.head? == some 47, full (parts s), 0) else (false, [], 3)
theorem full_len_le : ∀ s : List UInt8, 2 * (full (parts s)).length ≤ s.length + 1 ∧ (s.head? = some 47 → 2 * (full (parts s)).length ≤ s.length)
  | [] => by simp [parts, full]
  | c :: r => by
    have ih := full_len_le r
    by_cases h : c = 47
    · subst h
      rw [parts_slash]
      have e : full ([] :: parts r) = full (parts r) := by simp [full]
      rw [e]
      simp
      omega
    · obtain ⟨p, ps, h1, h2⟩ := parts_cons (r := r) h
      rw [h2]
      refine ⟨?_, fun hh => absurd (Option.some.inj hh) h⟩
      have e1 : full ((c :: p) :: ps) = mk (c :: p) :: full ps := by simp [full]
      rw [e1]
      rw [h1] at ih
      by_cases hp : p = []
      · subst hp
        have e2 : full ([] :: ps) = full ps := by simp [full]
        rw [e2] at ih
        cases r with
        | nil =>
          simp [parts] at h1
          subst h1
          simp [full]
        | cons d r' =>
          have hd : d = 47 := by
            by_cases hd : d = 47
            · exact hd
            · obtain ⟨p', ps', _, h4⟩ := parts_cons (r := r') hd
              rw [h4] at h1
              simp at h1
          have := ih.2 (by rw [hd]; rfl)
          simp at this ⊢
          omega
      · have e2 : full (p :: ps) = mk p :: full ps := by
          cases p with
          | nil => exact absurd rfl hp
          | cons x y => simp [full]
        rw [e2] at ih
        have := ih.1
        simp at this ⊢
        omega
theorem splitT_len {s : List UInt8} {l : List ByteArray} {g : Bool} {e : Int} (h : splitT s = (g, l, e)) : l.length ≤ 32 := by
  unfold splitT at h
  split at h
  · obtain ⟨-, rfl, -⟩ := h; simp
  · split at h
    · obtain ⟨-, rfl, -⟩ := h; simp
    · split at h
      · obtain ⟨-, rfl, -⟩ := h
        have := (full_len_le s).1
        omega
      · obtain ⟨-, rfl, -⟩ := h; simp
/-! ### the walk -/
structure Fs where
  look : Int → ByteArray → Int × Int
  tells : Int → ByteArray × Int
  stat : Int → S × Int
def mayT (F : Fs) (c : C) (n : Int) : Int := if (F.stat n).2 ≠ 0 then (F.stat n).2 else if (F.stat n).1.kind ≠ 2 then 12 else if (mayR (F.stat n).1 c 4).2 ≠ 0 ∨ (mayR (F.stat n).1 c 4).1 = false then 7 else 0
def topT (st : List Int) : Int := st.getD (st.length - 1) 0
def isDot (p : ByteArray) : Bool := p.data.toList == [46]
def isUp (p : ByteArray) : Bool := p.data.toList == [46, 46]
def isLink (follow : Bool) (s : S) (l : List ByteArray) : Bool := s.kind == 3 && (follow || !l.isEmpty)
def rooted (g : Bool) (st : List Int) : List Int := if g then st.take 1 else st
def upT (st : List Int) : List Int := if 1 < st.length then st.dropLast else st
def inoOk (n : Int) : Bool := decide (1 ≤ n) && decide (n ≤ 32)
/-- what the walk comes to: an error, the stack, how many links are left -/
def walkT (F : Fs) (c : C) (follow : Bool) : Nat → List Int → List ByteArray → Int × List Int × Nat
  | k, st, [] => (0, st, k)
  | k, st, p :: l =>
    if mayT F c (topT st) ≠ 0 then (mayT F c (topT st), st, k)
    else if isDot p then walkT F c follow k st l
    else if isUp p then walkT F c follow k (upT st) l
    else if (F.look (topT st) p).2 ≠ 0 then ((F.look (topT st) p).2, st, k)
    else if (F.stat (F.look (topT st) p).1).2 ≠ 0 then ((F.stat (F.look (topT st) p).1).2, st, k)
    else if isLink follow (F.stat (F.look (topT st) p).1).1 l then
      match k with
      | 0 => (14, st, 0)
      | k + 1 =>
        if (F.tells (F.look (topT st) p).1).2 ≠ 0 then ((F.tells (F.look (topT st) p).1).2, st, k)
        else if (splitT (F.tells (F.look (topT st) p).1).1.data.toList).2.2 ≠ 0 then ((splitT (F.tells (F.look (topT st) p).1).1.data.toList).2.2, st, k)
        else walkT F c follow k (rooted (splitT (F.tells (F.look (topT st) p).1).1.data.toList).1 st) ((splitT (F.tells (F.look (topT st) p).1).1.data.toList).2.1 ++ l)
    else if inoOk (F.look (topT st) p).1 then walkT F c follow k (st ++ [(F.look (topT st) p).1]) l
    else (1, st, k)
  termination_by k _ l => (k, l.length)
def startT (c : C) (cwd : List Int) (s : List UInt8) : Int × List Int × List ByteArray :=
  if chkC c ≠ 0 then (chkC c, [], []) else if cwd = [] then (4, [], []) else if (splitT s).2.2 ≠ 0 then ((splitT s).2.2, [], []) else (0, rooted (splitT s).1 cwd, (splitT s).2.1)
def wayT (F : Fs) (c : C) (follow : Bool) (cwd : List Int) (s : List UInt8) : Int × List Int :=
  if (startT c cwd s).1 ≠ 0 then ((startT c cwd s).1, []) else
  if (walkT F c follow 8 (startT c cwd s).2.1 (startT c cwd s).2.2).1 ≠ 0 then ((walkT F c follow 8 (startT c cwd s).2.1 (startT c cwd s).2.2).1, []) else (0, (walkT F c follow 8 (startT c cwd s).2.1 (startT c cwd s).2.2).2.1)
end Go.Proofs.YtjkephmfpoekgaaDoor.PathLaw
