/- The walks of ringkeep5.turns, LensOf, slices.Reverse. -/
import Derived.Test.YtopadiofanaaiaaTurnGo
import Derived.BigRegion
namespace Go.Proofs.Ytopadiofanaaiaa.TurnLaw
open Go.RowKit
set_option linter.unusedVariables false

theorem two0 (w : World) (T : TypeId) : ∀ i, i < [(0 : Int), 0].length → (w.alloc (.cells #[.int .i64 0, .int .i64 0] T)).cell? ⟨w.heap.size, i, none⟩ = some (.int .i64 ([(0 : Int), 0].getD i 0)) := by
  intro i hi
  rw [cell_of_row _ _ _ _ _ _ (heap_alloc_new _ _)]
  have : i = 0 ∨ i = 1 := by simp at hi; omega
  rcases this with rfl | rfl <;> rfl
theorem nat_new (w : World) (l : List Nat) (T : TypeId) (h : l.length ≤ maxLen) : NatS (w.alloc (.cells (l.map natV).toArray T)) (.slice (some ⟨w.heap.size, 0, none⟩) l.length l.length) l := at_new w l T h
abbrev B21 : Obj := .cells #[.int .i64 2, .int .i64 1] 3
abbrev B010 : Obj := .cells #[.int .i64 0, .int .i64 1, .int .i64 0] 3
theorem good21 : good4 [2, 1] := by unfold good4; decide
theorem nat21 (w : World) : NatS (w.alloc B21) (.slice (some ⟨w.heap.size, 0, none⟩) 2 2) [2, 1] := nat_new w [2, 1] 3 (by decide)
theorem nat010 (w : World) : NatS (w.alloc B010) (.slice (some ⟨w.heap.size, 0, none⟩) 3 3) [0, 1, 0] := nat_new w [0, 1, 0] 3 (by decide)
theorem count21 (w : World) : Calls Try.prog 15 #[.slice (some ⟨w.heap.size, 0, none⟩) 2 2] (w.alloc B21) fun e w' => e = .returned (.tuple #[.int .i64 3, .int .i64 0]) ∧ w.alloc B21 = w' := by
  have h := Count_is good21 (nat21 w)
  have h1 : countR [2, 1] = 3 := by decide +kernel
  rw [h1] at h
  exact h
theorem at21 (w : World) : Calls Try.prog 19 #[.slice (some ⟨w.heap.size, 0, none⟩) 2 2, .int .i64 1] (w.alloc B21) fun e w' => (∃ v', e = .returned (.tuple #[v', .int .i64 0]) ∧ NatS w' v' [0, 1, 0]) ∧ Below w.heap.size w w' := by
  have h1 : countR [2, 1] = 3 := by decide +kernel
  have h2 : atR [2, 1] 1 = [0, 1, 0] := by decide +kernel
  have h := at_is (k0 := 1) good21 (by rw [h1]; decide) (nat21 w)
  refine h.mono ?_
  rintro e w' ⟨v', rfl, hn, hb⟩
  rw [h2] at hn
  have hb0 : Below w.heap.size w (w.alloc B21) := Go.Joins.below_alloc1 _ _
  exact ⟨⟨v', rfl, hn⟩, hb0.trans (hb.mono hb0.size)⟩
theorem eq010 {w : World} {v : Value} (h : NatS w v [0, 1, 0]) : Calls Try.prog 22 #[v, .slice (some ⟨w.heap.size, 0, none⟩) 3 3] (w.alloc B010) fun e w' => e = .returned (.bool true) ∧ Below w.heap.size w w' := by
  have hb0 : Below w.heap.size w (w.alloc B010) := Go.Joins.below_alloc1 _ _
  refine (equal_is (h.keep hb0) (nat010 w)).mono ?_
  rintro e w' ⟨rfl, hb⟩
  exact ⟨by simp, hb0.trans (hb.mono hb0.size)⟩
set_option maxRecDepth 100000 in
set_option maxHeartbeats 400000 in
theorem turns_any (w : World) : Calls Try.prog 11 #[] w fun e w' => e = .returned (.bool true) ∧ Below w.heap.size w w' := by
  go_enter Try.func11, Try.ntmps11
  go_wp2_with fail
  refine (count21 _).mono ?_
  rintro e w1 ⟨rfl, rfl⟩
  go_wp2_with fail
  obtain ⟨w1, hw1⟩ : ∃ w1, w1 = w.alloc B21 := ⟨_, rfl⟩
  have hb1 : Below w.heap.size w w1 := by rw [hw1]; exact Go.Joins.below_alloc1 _ _
  have h21 := at21 w1
  rw [hw1] at h21
  rw [show (w.alloc B21).heap.size = w.heap.size + 1 from by simp] at h21
  refine h21.mono ?_
  rintro e w2 ⟨⟨v', rfl, hn⟩, hb2⟩
  have HN := Lib.hid hn
  have HB2 := Lib.hid (show Below w.heap.size w w2 from hb1.trans ((by rw [hw1, show (w.alloc B21).heap.size = w.heap.size + 1 from by simp]; exact hb2 : Below w1.heap.size w1 w2).mono hb1.size))
  clear hn hb2 h21 hb1 hw1
  go_wp2_with fail
  refine (good_any _ _ [0, 0] _ (by simp) (two0 _ _)).mono ?_
  rintro e w3 ⟨rfl, rfl⟩
  rw [show ([(0 : Int), 0].all (· == 0)) = true from rfl]
  have hb3 := HB2.out.alloc HB2.out.size (.cells #[.int .i64 0, .int .i64 0] 26)
  have hn3 := HN.out.keep (Go.Joins.below_alloc1 w2 (.cells #[.int .i64 0, .int .i64 0] 26))
  generalize hw3 : w2.alloc (.cells #[.int .i64 0, .int .i64 0] 26) = w3 at *
  have HN3 := Lib.hid hn3
  have HB3 := Lib.hid hb3
  clear hn3 hb3
  go_wp2_with fail
  refine (eq010 HN3.out).mono ?_
  rintro e w4 ⟨rfl, hb4⟩
  have HB4 := Lib.hid (HB3.out.trans (hb4.mono HB3.out.size))
  clear hb4
  go_wp2
  go_ret
  exact ⟨rfl, HB4.out⟩
end Go.Proofs.Ytopadiofanaaiaa.TurnLaw
