/- Arguments that are slices of integers, opened. Arguments that are slices of slices of integers, opened. -/
import Derived.Test.YtnbhohaphmilmaaGreatDoorRows
import Derived.Test.YtnbhohaphmilmaaGreatDoorAlG
import Derived.Test.YtnbhohaphmilmaaGreatDoorAlE
namespace Go.Proofs.YtnbhohaphmilmaaGreatDoor
set_option linter.unusedSimpArgs false
set_option linter.unusedVariables false
open Go.ChangeShapes Go.WideShapes Go.Deep Go.RowKit
section
variable {H : Type} {enc : TypeId × Value → H} {P : Program} {w : World} {base : Nat} {spare : Nat → Bool} {held : Bool}
/-- a slice of integers -/
theorem fld_intsU {t e : TypeId} {n : Nat} {v : Value} {y : DataW H × List MemPlace} (ht : P.underlying t = some (.slice e)) (he : P.underlying e = some (.int .i64)) (hc : P.cellsOf e = 1)
    (h : DataW.trod enc P w base (fun _ => true) held n t [v] = some y) : ∃ xs : List Int, At (Value.int .i64) 0 w v xs := by
  rcases open_slice1 ht hc h with ⟨hcs, _⟩ | ⟨a, len, cap, m, n, V, D, Pl, hcs, hb, hl, hm, hmm, hx, hi⟩
  · simp at hcs
    subst hcs
    exact ⟨[], ⟨none, 0, rfl, Nat.le_refl _, Nat.zero_le _, .inl rfl⟩⟩
  · simp at hcs
    subst hcs
    have hmc : m = cap := by simpa using hmm
    obtain ⟨g, hg⟩ := choose_lt (α := Int) (n := len) (p := fun i x => V i = .int .i64 x) (fun i hil => by
      obtain ⟨z, hz, _⟩ := DataW.trod_int he (hi i (by omega)).2
      exact ⟨z, by simpa using hz⟩)
    refine ⟨(List.range len).map g, ⟨some a, cap, by simp, by simpa using hl, hm, ?_⟩⟩
    · by_cases h0 : len = 0
      · subst h0; exact .inl rfl
      · obtain ⟨b, off, spot⟩ := a
        have hc0 := (hi 0 (by omega)).1
        have hspot : spot = none := by simpa [Addr.add] using World.cell?_spot hc0
        subst hspot
        refine .inr ⟨b, off, rfl, ?_, fun i hil => ?_⟩
        · have := World.block_lt_of_cell? w _ hc0
          rw [Addr.add_lit] at this
          exact this
        · have hil' : i < len := by simpa using hil
          have := (hi i (by omega)).1
          rw [Addr.add_lit, hg i hil'] at this
          simpa [List.getD, hil'] using this
set_option maxRecDepth 100000 in
set_option maxHeartbeats 400000 in
theorem open_intsU {r : Reach} {b0 : Nat} {v : Value} {d : DataW H} {p : List MemPlace} (hv : Value.okWide Tryz.prog w r b0 23 v) (h : DataW.Trod enc Tryz.prog w base (fun _ => true) held 23 v d p) : ∃ l : List Int, At (Value.int .i64) 0 w v l ∧ True := by
  obtain ⟨a0, len0, cap0, rfl⟩ := okWide_slice Tryz.underlying23 hv
  obtain ⟨fuel, hf⟩ := h
  obtain ⟨xs, hxs⟩ := fld_intsU (v := .slice a0 len0 cap0) Tryz.underlying23 Tryz.underlying3 (by kernel_rfl) hf
  exact ⟨xs, hxs, trivial⟩
end
end Go.Proofs.YtnbhohaphmilmaaGreatDoor
namespace Go.Proofs.YtnbhohaphmilmaaGreatDoor
set_option linter.unusedSimpArgs false
set_option linter.unusedVariables false
open Go.ChangeShapes Go.WideShapes Go.Deep Go.RowKit
section
variable {H : Type} {enc : TypeId × Value → H} {P : Program} {w : World} {base : Nat} {spare : Nat → Bool} {held : Bool}
/-- a slice of slices of integers -/
theorem fld_intsW {t e e2 : TypeId} {n : Nat} {v : Value} {y : DataW H × List MemPlace} (ht : P.underlying t = some (.slice e)) (he : P.underlying e = some (.slice e2)) (he2 : P.underlying e2 = some (.int .i64)) (hc : P.cellsOf e = 1) (hc2 : P.cellsOf e2 = 1)
    (h : DataW.trod enc P w base (fun _ => true) held n t [v] = some y) : ∃ xss : List (List Int), At2 w v xss := by
  rcases open_slice1 ht hc h with ⟨hcs, _⟩ | ⟨a, len, cap, m, n, V, D, Pl, hcs, hb, hl, hm, hmm, hx, hi⟩
  · simp at hcs
    subst hcs
    exact ⟨[], ⟨none, 0, rfl, Nat.le_refl _, Nat.zero_le _, .inl rfl⟩⟩
  · simp at hcs
    subst hcs
    have hmc : m = cap := by simpa using hmm
    obtain ⟨g, hg⟩ := choose_lt (α := List Int) (n := len) (p := fun i xs => At (Value.int .i64) 0 w (V i) xs) (fun i hil => by
      obtain ⟨xs, hxs⟩ := fld_intsU he he2 hc2 (hi i (by omega)).2
      exact ⟨xs, hxs⟩)
    refine ⟨(List.range len).map g, ⟨some a, cap, by simp, by simpa using hl, hm, ?_⟩⟩
    by_cases h0 : len = 0
    · subst h0; exact .inl rfl
    · obtain ⟨b, off, spot⟩ := a
      have hc0 := (hi 0 (by omega)).1
      have hspot : spot = none := by simpa [Addr.add] using World.cell?_spot hc0
      subst hspot
      refine .inr ⟨b, off, rfl, ?_, fun i hil => ?_⟩
      · have := World.block_lt_of_cell? w _ hc0
        rw [Addr.add_lit] at this
        exact this
      · have hil' : i < len := by simpa using hil
        have h1 := (hi i (by omega)).1
        rw [Addr.add_lit] at h1
        refine ⟨V i, h1, ?_⟩
        have h2 := hg i hil'
        have e : ((List.range len).map g).getD i [] = g i := by simp [List.getD, hil']
        rw [e]
        exact h2
set_option maxRecDepth 100000 in
set_option maxHeartbeats 400000 in
theorem open_intsW {r : Reach} {b0 : Nat} {v : Value} {d : DataW H} {p : List MemPlace} (hv : Value.okWide Tryz.prog w r b0 22 v) (h : DataW.Trod enc Tryz.prog w base (fun _ => true) held 22 v d p) : ∃ l : List (List Int), At2 w v l ∧ True := by
  obtain ⟨a0, len0, cap0, rfl⟩ := okWide_slice Tryz.underlying22 hv
  obtain ⟨fuel, hf⟩ := h
  obtain ⟨xs, hxs⟩ := fld_intsW (v := .slice a0 len0 cap0) Tryz.underlying22 Tryz.underlying23 Tryz.underlying3 (by kernel_rfl) (by kernel_rfl) hf
  exact ⟨xs, hxs, trivial⟩
end
end Go.Proofs.YtnbhohaphmilmaaGreatDoor
