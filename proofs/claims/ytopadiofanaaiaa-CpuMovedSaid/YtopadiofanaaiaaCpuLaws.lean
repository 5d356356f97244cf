/- The laws of a step in plain numbers: the ring stays, numbers fit, a fault leaves the registers. -/
import Derived.Test.YtopadiofanaaiaaCpuStepIs
namespace Go.Proofs.Ytopadiofanaaiaa.CpuLaw
open Go.RowKit
set_option linter.unusedVariables false
set_option linter.unusedSimpArgs false
/-- all bytes fit -/
def Small (m : M) : Prop := ∀ i, m.f i < 256
theorem Room.small {w : World} {b c : Nat} {m : M} (h : Room w b c m) : Small m := h.fl
theorem byteAt_lt {m : M} (h : Small m) (a : Nat) : byteAt m a < 256 := h _
theorem fetchF_lt {m : M} (h : Small m) (a : Nat) (want : Int) : (fetchF m a want).1 < 4294967296 := by
  have h0 := byteAt_lt h a
  have h1 := byteAt_lt h (up a 1)
  have h2 := byteAt_lt h (up a 2)
  have h3 := byteAt_lt h (up a 3)
  unfold fetchF first4
  repeat' split
  all_goals (try unfold wordAt)
  all_goals simp only
  all_goals omega
theorem fetchF_t (m : M) (a : Nat) (want : Int) : (fetchF m a want).2.1 = 0 ∨ (fetchF m a want).2.1 = 2 := by
  unfold fetchF first4
  repeat' split
  all_goals simp
theorem putF_t (m : M) (a x : Nat) : (putF m a x).2.1 = 0 ∨ (putF m a x).2.1 = 2 := by
  unfold putF first4
  repeat' split
  all_goals simp
theorem memF_t (g : G) (m : M) (op : Int) (A B k : Nat) : (memF g m op A B k).t = 0 ∨ (memF g m op A B k).t = 2 := by
  have hf := fetchF_t m (up (g.r B) k) 1
  have hp := putF_t m (up (g.r B) k) (g.r A)
  unfold memF
  repeat' split
  all_goals first | exact .inl rfl | exact .inr rfl | exact hf | exact hp
theorem setR_ring (g : G) (k x : Nat) : (setR g k x).ring = g.ring := rfl
theorem memF_ring (g : G) (m : M) (op : Int) (A B k : Nat) : (memF g m op A B k).g.ring = g.ring := by
  unfold memF
  repeat' split
  all_goals rfl
theorem jumpF_ring (g : G) (pc : Nat) (op : Int) (A B k : Nat) : (jumpF g pc op A B k).ring = g.ring := by
  unfold jumpF
  repeat' split
  all_goals rfl
theorem otherF_ring (g : G) (op : Int) (A B : Nat) (C : Int) : (otherF g op A B C).ring = g.ring := by
  unfold otherF
  repeat' split
  all_goals rfl
theorem execF_ring (g : G) (m : M) (op : Int) (A B : Nat) (C : Int) : (execF g m op A B C).g.ring = g.ring := by
  unfold execF
  repeat' split
  all_goals first | rfl | exact memF_ring _ _ _ _ _ _ | exact jumpF_ring _ _ _ _ _ _ | exact otherF_ring _ _ _ _ _
theorem stepF_ring (g : G) (m : M) : (stepF g m).g.ring = g.ring := by
  unfold stepF
  repeat' split
  all_goals first | rfl | exact execF_ring _ _ _ _ _ _
theorem execF_t (g : G) (m : M) (op : Int) (A B : Nat) (C : Int) : (execF g m op A B C).t ≠ 5 ∧ (2 ≤ (execF g m op A B C).t → (execF g m op A B C).g = g) := by
  have hm := memF_t (nextG g) m op A B (u32z C)
  unfold execF
  split
  · split
    · exact ⟨by show (4 : Int) ≠ 5; decide, fun _ => rfl⟩
    · exact ⟨by show (0 : Int) ≠ 5; decide, fun h => absurd (show (2 : Int) ≤ 0 from h) (by decide)⟩
  · split
    · split
      · rename_i h0
        rw [h0]
        exact ⟨by decide, fun h => absurd h (by decide)⟩
      · refine ⟨?_, fun _ => rfl⟩
        show (memF (nextG g) m op A B (u32z C)).t ≠ 5
        omega
    · split
      · exact ⟨by show (0 : Int) ≠ 5; decide, fun h => absurd (show (2 : Int) ≤ 0 from h) (by decide)⟩
      · simp only
        split
        · exact ⟨by decide, fun h => absurd h (by decide)⟩
        · exact ⟨by decide, fun h => absurd h (by decide)⟩
theorem stepF_t (g : G) (m : M) : (stepF g m).t ≠ 5 ∧ (2 ≤ (stepF g m).t → (stepF g m).g = g) := by
  have hf := fetchF_t m g.pc 4
  unfold stepF
  split
  · split
    · exact execF_t _ _ _ _ _ _
    · exact ⟨by show (3 : Int) ≠ 5; decide, fun _ => rfl⟩
  · refine ⟨?_, fun _ => rfl⟩
    show (fetchF m g.pc 4).2.1 ≠ 5
    omega
theorem Good.setR {g : G} (h : Good g) {x : Nat} (hx : x < 4294967296) (k : Nat) : Good (setR g k x) := by
  refine ⟨fun i => ?_, h.pc⟩
  show (if i = k then x else g.r i) < _
  split
  · exact hx
  · exact h.r i
theorem Good.next {g : G} (h : Good g) : Good (nextG g) := ⟨h.r, up_lt _ _⟩
theorem aluF_lt {op : Int} {x y : Nat} (hx : x < 4294967296) (hy : y < 4294967296) : aluF op x y < 4294967296 := by
  have h32 : (4294967296 : Nat) = 2 ^ 32 := rfl
  unfold aluF
  repeat' split
  · exact Nat.mod_lt _ (by decide)
  · exact Nat.mod_lt _ (by decide)
  · exact Nat.mod_lt _ (by decide)
  · exact Nat.lt_of_le_of_lt (Nat.div_le_self _ _) hx
  · rw [h32] at *; exact Nat.and_lt_two_pow _ hy
  · rw [h32] at *; exact Nat.or_lt_two_pow hx hy
  · rw [h32] at *; exact Nat.xor_lt_two_pow hx hy
  · exact Nat.mod_lt _ (by decide)
  · exact Nat.lt_of_le_of_lt (Nat.div_le_self _ _) hx
theorem u32z_lt (C : Int) : u32z C < 4294967296 := by unfold u32z; omega
theorem memF_good {g : G} {m : M} (h : Good g) (hm : Small m) (op : Int) (A B k : Nat) : Good (memF g m op A B k).g := by
  have hx := fetchF_lt hm (up (g.r B) k) 1
  have hy := byteAt_lt hm (up (g.r B) k)
  unfold memF
  repeat' split
  all_goals first | exact h | exact h.setR hx A | exact h.setR (Nat.lt_trans hy (by decide)) A
theorem jumpF_good {g : G} (h : Good g) (pc : Nat) (op : Int) (A B k : Nat) : Good (jumpF g pc op A B k) := by
  unfold jumpF
  repeat' split
  all_goals first | exact h | exact ⟨h.r, up_lt _ _⟩ | exact ⟨(h.setR (up_lt _ _) A).r, up_lt _ _⟩ | exact ⟨h.r, h.r A⟩
theorem otherF_good {g : G} (h : Good g) (op : Int) (A B : Nat) (C : Int) : Good (otherF g op A B C) := by
  have h32 : (4294967296 : Nat) = 2 ^ 32 := rfl
  have h16 : u16z C < 2 ^ 32 := Nat.lt_trans (u16z_lt C) (by decide)
  unfold otherF
  repeat' split
  · exact h.setR (u32z_lt C) A
  · refine h.setR ?_ A
    rw [h32]
    exact Nat.or_lt_two_pow (Nat.mod_lt _ (by decide)) h16
  · exact h.setR (h.r B) A
  · exact h.setR (up_lt _ _) A
  · exact h
theorem execF_good {g : G} {m : M} (h : Good g) (hm : Small m) (op : Int) (A B : Nat) (C : Int) : Good (execF g m op A B C).g := by
  unfold execF
  repeat' split
  all_goals first | exact h | exact h.next.setR (aluF_lt (h.r A) (h.r B)) A | exact memF_good h.next hm _ _ _ _ | exact jumpF_good h.next _ _ _ _ _ | exact otherF_good h.next _ _ _ _
theorem stepF_good {g : G} {m : M} (h : Good g) (hm : Small m) : Good (stepF g m).g := by
  unfold stepF
  repeat' split
  all_goals first | exact h | exact execF_good h hm _ _ _ _
end Go.Proofs.Ytopadiofanaaiaa.CpuLaw
