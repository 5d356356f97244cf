/- Serving a line: what is queued, what is done: in plain numbers. -/
import Derived.Test.YtddfgdodpjmjfaaIrqNext
namespace Go.Proofs.Ytddfgdodpjmjfaa.IrqLaw

structure St where
  u : Int
  p : Int
  q : Int
  d : Int

def p1 (s : St) (ring : Bool) : Int := if ring then 1 else s.p
def u1 (s : St) (ring : Bool) : Int := if ring then 1 else s.u
def stepS (s : St) (n h : Int) (ring : Bool) : St :=
  if p1 s ring = 1 then (if s.q + n ≤ h then ⟨u1 s ring, 0, 0, s.d + (s.q + n)⟩ else ⟨u1 s ring, 1, s.q + n - h, s.d + h⟩) else ⟨u1 s ring, p1 s ring, s.q + n, s.d⟩
def within (x : Int) : Bool := decide (0 ≤ x) && decide (x ≤ 100)
theorem within_iff (x : Int) : within x = true ↔ (0 ≤ x ∧ x ≤ 100) := by simp [within]
def serveGo (s : St) : List Int → List Int → List Bool → Option St
  | n :: ns, h :: hs, r :: rs => if within n && within h then serveGo (stepS s n h r) ns hs rs else none
  | _, _, _ => some s
def s0 : St := ⟨0, 0, 0, 0⟩
def outS : Option St → Int × Int × Int
  | some s => (s.d, s.q, 0)
  | none => (0, 0, 1)
def serveR (had news : List Int) (rings : List Bool) : Int × Int × Int :=
  if had.length = news.length ∧ rings.length = news.length ∧ news.length ≤ 64 then outS (serveGo s0 news had rings) else (0, 0, 3)

theorem go_next {s : St} {had news : List Int} {rings : List Bool} {k : Nat} (h1 : k < news.length) (h2 : had.length = news.length) (h3 : rings.length = news.length) (hn : within (news.getD k 0) = true) (hh : within (had.getD k 0) = true) :
    serveGo s (news.drop k) (had.drop k) (rings.drop k) = serveGo (stepS s (news.getD k 0) (had.getD k 0) (rings.getD k false)) (news.drop (k + 1)) (had.drop (k + 1)) (rings.drop (k + 1)) := by
  rw [List.drop_eq_getElem_cons h1, List.drop_eq_getElem_cons (show k < had.length by omega), List.drop_eq_getElem_cons (show k < rings.length by omega), serveGo]
  simp only [List.getD, List.getElem?_eq_getElem h1, List.getElem?_eq_getElem (show k < had.length by omega), List.getElem?_eq_getElem (show k < rings.length by omega), Option.getD_some] at hn hh ⊢
  rw [hn, hh]; rfl
theorem go_bad {s : St} {had news : List Int} {rings : List Bool} {k : Nat} (h1 : k < news.length) (h2 : had.length = news.length) (h3 : rings.length = news.length) (hb : (within (news.getD k 0) && within (had.getD k 0)) = false) :
    serveGo s (news.drop k) (had.drop k) (rings.drop k) = none := by
  rw [List.drop_eq_getElem_cons h1, List.drop_eq_getElem_cons (show k < had.length by omega), List.drop_eq_getElem_cons (show k < rings.length by omega), serveGo]
  simp only [List.getD, List.getElem?_eq_getElem h1, List.getElem?_eq_getElem (show k < had.length by omega), Option.getD_some] at hb
  rw [hb]; rfl
theorem go_end {s : St} {had news : List Int} {rings : List Bool} : serveGo s (news.drop news.length) had rings = some s := by
  rw [List.drop_length]; unfold serveGo; rfl

/-- a line that is either up or not, and calls or not -/
structure Fit (s : St) : Prop where
  hu : s.u = 0 ∨ s.u = 1
  hp : s.p = 0 ∨ s.p = 1
theorem step_fit {s : St} (h : Fit s) (n x : Int) (r : Bool) : Fit (stepS s n x r) := by
  obtain ⟨hu, hp⟩ := h
  have h1 : u1 s r = 0 ∨ u1 s r = 1 := by unfold u1; split; exact .inr rfl; exact hu
  have h2 : p1 s r = 0 ∨ p1 s r = 1 := by unfold p1; split; exact .inr rfl; exact hp
  unfold stepS
  split
  · split
    · exact ⟨h1, .inl rfl⟩
    · exact ⟨h1, .inr rfl⟩
  · exact ⟨h1, h2⟩

theorem S1 {u p : Int} (hu : u = 0 ∨ u = 1) (hp : p = 0 ∨ p = 1) : setR ⟨1, u, 0, p⟩ 0 false = ⟨1, 0, 0, p⟩ := by rcases hu with rfl | rfl <;> rcases hp with rfl | rfl <;> rfl
theorem S1e {u p : Int} (hu : u = 0 ∨ u = 1) (hp : p = 0 ∨ p = 1) : (lineR ⟨1, u, 0, p⟩ 0).2 = 0 := by rcases hu with rfl | rfl <;> rcases hp with rfl | rfl <;> rfl
theorem S2 {p : Int} (hp : p = 0 ∨ p = 1) : setR ⟨1, 0, 0, p⟩ 0 true = ⟨1, 1, 0, 1⟩ := by rcases hp with rfl | rfl <;> rfl
theorem T1 {u : Int} (hu : u = 0 ∨ u = 1) : takeR ⟨1, u, 0, 1⟩ = ⟨1, u, 0, 0⟩ := by rcases hu with rfl | rfl <;> rfl
theorem T1k {u : Int} (hu : u = 0 ∨ u = 1) : takeK ⟨1, u, 0, 1⟩ = 0 := by rcases hu with rfl | rfl <;> rfl
theorem T1e {u : Int} (hu : u = 0 ∨ u = 1) : (nextR ⟨1, u, 0, 1⟩).2 = 0 := by rcases hu with rfl | rfl <;> rfl
theorem T0e {u : Int} (hu : u = 0 ∨ u = 1) : (nextR ⟨1, u, 0, 0⟩).2 = 4 := by rcases hu with rfl | rfl <;> rfl
end Go.Proofs.Ytddfgdodpjmjfaa.IrqLaw
