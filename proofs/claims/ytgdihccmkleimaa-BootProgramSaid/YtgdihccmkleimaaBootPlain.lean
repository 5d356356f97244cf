/- BootProgram in plain lists: an image, its file, and back. No program here. -/
import Derived.Test.YtgdihccmkleimaaBase
namespace Go.Proofs.Ytgdihccmkleimaa.BootLaw
set_option linter.unusedVariables false
/-- a page: its number, its rights, its bytes -/
structure Pg where
  pg : Int
  rt : Int
  da : List Int
def zeroP : Pg := ⟨0, 0, []⟩
def pAt (ps : List Pg) (i : Nat) : Pg := ps.getD i zeroP
/-- is the page in order? -/
structure OkAt (ps : List Pg) (i : Nat) : Prop where
  lo : 0 ≤ (pAt ps i).pg
  hi : (pAt ps i).pg < 64
  up : 0 < i → (pAt ps (i - 1)).pg < (pAt ps i).pg
  r1 : 1 ≤ (pAt ps i).rt
  r5 : (pAt ps i).rt ≤ 5
  len : (pAt ps i).da.length ≤ 16
def begins (e : Nat) (p : Pg) : Bool := decide ((e : Int) / 16 = p.pg) && decide (4 ≤ p.rt)
/-- what Check says no to -/
structure Right (e : Nat) (ps : List Pg) : Prop where
  len : ps.length ≤ 64
  all : ∀ i, i < ps.length → OkAt ps i
  e4 : e % 4 = 0
  st : ∃ i, i < ps.length ∧ begins e (pAt ps i) = true
/-- how many bytes are left without the noughts at the end -/
def trimN (d : List Int) : Nat → Nat
  | 0 => 0
  | n + 1 => if d.getD n 0 = 0 then trimN d n else n + 1
theorem trimN_le (d : List Int) : ∀ n, trimN d n ≤ n
  | 0 => Nat.le_refl _
  | n + 1 => by
    unfold trimN
    split
    · exact Nat.le_succ_of_le (trimN_le d n)
    · exact Nat.le_refl _
def trimD (d : List Int) : List Int := d.take (trimN d d.length)
theorem trimD_len (d : List Int) : (trimD d).length = trimN d d.length := by
  unfold trimD
  rw [List.length_take]
  have := trimN_le d d.length
  omega
theorem getD_take {d : List Int} {k n : Nat} (h : k < n) : (d.take n).getD k 0 = d.getD k 0 := by
  rw [List.getD_eq_getElem?_getD, List.getD_eq_getElem?_getD, List.getElem?_take, if_pos h]
theorem trimN_last (d : List Int) : ∀ n, trimN d n = 0 ∨ d.getD (trimN d n - 1) 0 ≠ 0
  | 0 => .inl rfl
  | n + 1 => by
    unfold trimN
    split
    · exact trimN_last d n
    · rename_i h
      exact .inr h
theorem trimN_self {d : List Int} {n : Nat} (h : n = 0 ∨ d.getD (n - 1) 0 ≠ 0) : trimN d n = n := by
  cases n with
  | zero => rfl
  | succ n =>
    unfold trimN
    rw [if_neg]
    rcases h with h | h
    · omega
    · exact h
theorem trimD_trimD (d : List Int) : trimD (trimD d) = trimD d := by
  have h := trimN_last d d.length
  have hl := trimD_len d
  have e : trimN (trimD d) (trimD d).length = (trimD d).length := by
    apply trimN_self
    rw [hl]
    rcases h with h | h
    · exact .inl h
    · by_cases h0 : trimN d d.length = 0
      · exact .inl h0
      · refine .inr ?_
        unfold trimD
        rw [getD_take (by omega)]
        exact h
  unfold trimD at *
  rw [e]
  exact List.take_length
def trimP (p : Pg) : Pg := ⟨p.pg, p.rt, trimD p.da⟩
def trims (ps : List Pg) : List Pg := ps.map trimP
theorem trims_length (ps : List Pg) : (trims ps).length = ps.length := List.length_map ..
theorem trims_trims (ps : List Pg) : trims (trims ps) = trims ps := by
  unfold trims
  rw [List.map_map]
  congr 1
  funext p
  simp [trimP, trimD_trimD]
theorem pAt_trims (ps : List Pg) (i : Nat) : pAt (trims ps) i = trimP (pAt ps i) := by
  unfold pAt trims
  rw [List.getD_eq_getElem?_getD, List.getD_eq_getElem?_getD, List.getElem?_map]
  cases ps[i]? with
  | none => rfl
  | some p => rfl
theorem Right.trims {e : Nat} {ps : List Pg} (h : Right e ps) : Right e (trims ps) := by
  refine ⟨by rw [trims_length]; exact h.len, fun i hi => ?_, h.e4, ?_⟩
  · rw [trims_length] at hi
    have := h.all i hi
    have hl := trimD_len (pAt ps i).da
    have hl2 := trimN_le (pAt ps i).da (pAt ps i).da.length
    refine ⟨?_, ?_, fun h0 => ?_, ?_, ?_, ?_⟩
    · rw [pAt_trims]; exact this.lo
    · rw [pAt_trims]; exact this.hi
    · rw [pAt_trims, pAt_trims]; exact this.up h0
    · rw [pAt_trims]; exact this.r1
    · rw [pAt_trims]; exact this.r5
    · rw [pAt_trims]
      show (trimD (pAt ps i).da).length ≤ 16
      have := this.len
      omega
  · obtain ⟨i, hi, hb⟩ := h.st
    exact ⟨i, by rw [trims_length]; exact hi, by rw [pAt_trims]; exact hb⟩
def sumGo (s : Nat) : List Int → Nat
  | [] => s
  | c :: r => sumGo ((s * 31 + c.toNat) % 4294967296) r
def sumR (l : List Int) : Nat := sumGo 1 l
theorem sumGo_lt {s : Nat} (h : s < 4294967296) : ∀ l, sumGo s l < 4294967296
  | [] => h
  | c :: r => sumGo_lt (Nat.mod_lt _ (by decide)) r
theorem sumR_lt (l : List Int) : sumR l < 4294967296 := sumGo_lt (by decide) l
theorem sumGo_append (s : Nat) : ∀ l t, sumGo s (l ++ t) = sumGo (sumGo s l) t := by
  intro l
  induction l generalizing s with
  | nil => intro t; rfl
  | cons c r ih => intro t; exact ih _ t
def fourR (x : Nat) : List Int := [(x : Int) % 256, (x : Int) / 256 % 256, (x : Int) / 65536 % 256, (x : Int) / 16777216]
def encP (p : Pg) : List Int := [p.pg, p.rt, (p.da.length : Int)] ++ p.da
def encs (ps : List Pg) : List Int := (ps.map encP).flatten
theorem encs_cons (p : Pg) (ps : List Pg) : encs (p :: ps) = encP p ++ encs ps := rfl
theorem encs_append (a b : List Pg) : encs (a ++ b) = encs a ++ encs b := by simp [encs]
def headR (e : Nat) (n : Nat) : List Int := [82, 72, 49, (n : Int)] ++ fourR e
def bodyR (e : Nat) (ps : List Pg) : List Int := headR e ps.length ++ encs (trims ps)
def fileR (e : Nat) (ps : List Pg) : List Int := bodyR e ps ++ fourR (sumR (bodyR e ps))
theorem fileR_trims (e : Nat) (ps : List Pg) : fileR e (trims ps) = fileR e ps := by
  unfold fileR bodyR
  rw [trims_trims, trims_length]
/-- bytes -/
def Byt (l : List Int) : Prop := ∀ x ∈ l, 0 ≤ x ∧ x ≤ 255
theorem Byt.append {a b : List Int} (h : Byt a) (k : Byt b) : Byt (a ++ b) := fun x hx => by
  rcases List.mem_append.1 hx with q | q
  · exact h x q
  · exact k x q
theorem fourR_byt {x : Nat} (h : x < 4294967296) : Byt (fourR x) := fun y hy => by
  simp only [fourR, List.mem_cons, List.not_mem_nil, or_false] at hy
  omega
end Go.Proofs.Ytgdihccmkleimaa.BootLaw
