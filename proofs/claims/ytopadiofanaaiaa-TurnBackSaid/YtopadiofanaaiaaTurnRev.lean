/- The walk of slices.Reverse. -/
import Derived.Test.YtopadiofanaaiaaTurnOf
namespace Go.Proofs.Ytopadiofanaaiaa.TurnLaw
open Go.RowKit
set_option linter.unusedVariables false
set_option maxRecDepth 100000 in
theorem reverse0 {w : World} {base g cap : Nat} (h : NatRow w base (.slice (some ⟨g, 0, none⟩) 0 cap) []) :
    Calls Try.prog 14 #[.slice (some ⟨g, 0, none⟩) 0 cap] w fun e w' => e = .returned (.tuple #[]) ∧ NatRow w' base (.slice (some ⟨g, 0, none⟩) 0 cap) [] ∧ Below base w w' := by
  have hgb := (h.lt g rfl).1
  have hr := h
  have HR := Lib.hid hr
  clear h hr
  go_enter Try.func14, Try.ntmps14
  go_wp2
  refine wp_loop_rounds 1 ?_
  all_goals (rw [rounds_succ])
  all_goals go_wp2
  all_goals go_end0
  all_goals exact ⟨rfl, HR.out, Below.refl _ _⟩
set_option maxRecDepth 100000 in
theorem reverse1 {w : World} {base g cap : Nat} (a : Nat) (h : NatRow w base (.slice (some ⟨g, 0, none⟩) 1 cap) [a]) :
    Calls Try.prog 14 #[.slice (some ⟨g, 0, none⟩) 1 cap] w fun e w' => e = .returned (.tuple #[]) ∧ NatRow w' base (.slice (some ⟨g, 0, none⟩) 1 cap) [a] ∧ Below base w w' := by
  have hgb := (h.lt g rfl).1
  have c0 : w.cell? ⟨g, 0, none⟩ = some (.int .i64 (a : Int)) := h.cellAt 0 (by simp)
  have f0 : w.frozen? ⟨g, 0, none⟩ = false := h.frozenAt 0
  have hr := h
  have HR := Lib.hid hr
  clear h hr
  go_enter Try.func14, Try.ntmps14
  go_wp2
  refine wp_loop_rounds 1 ?_
  all_goals (rw [rounds_succ])
  all_goals go_wp2
  all_goals go_end0
  all_goals exact ⟨rfl, HR.out, Below.refl _ _⟩
set_option maxRecDepth 100000 in
theorem reverse2 {w : World} {base g cap : Nat} (a b : Nat) (h : NatRow w base (.slice (some ⟨g, 0, none⟩) 2 cap) [a, b]) :
    Calls Try.prog 14 #[.slice (some ⟨g, 0, none⟩) 2 cap] w fun e w' => e = .returned (.tuple #[]) ∧ NatRow w' base (.slice (some ⟨g, 0, none⟩) 2 cap) [b, a] ∧ Below base w w' := by
  have hgb := (h.lt g rfl).1
  have c0 : w.cell? ⟨g, 0, none⟩ = some (.int .i64 (a : Int)) := h.cellAt 0 (by simp)
  have f0 : w.frozen? ⟨g, 0, none⟩ = false := h.frozenAt 0
  have c1 : w.cell? ⟨g, 1, none⟩ = some (.int .i64 (b : Int)) := h.cellAt 1 (by simp)
  have f1 : w.frozen? ⟨g, 1, none⟩ = false := h.frozenAt 1
  have hr := ((h.stored 0 (natV b)).1.stored 1 (natV a)).1
  have HR := Lib.hid hr
  clear h hr
  go_enter Try.func14, Try.ntmps14
  go_wp2
  refine wp_loop_rounds 2 ?_
  rw [rounds_succ]
  go_wp2
  go_region
  all_goals go_wp2
  all_goals (rw [rounds_succ])
  all_goals go_wp2
  all_goals go_end0
  all_goals refine ⟨rfl, ?_, ?_⟩
  · exact row_below (HR.out) (Below.refl _ _).drew
  · repeat (first | refine Below.drew ?_ | refine Below.setCell ?_ (by simpa using hgb) _)
    exact Below.refl _ _
set_option maxRecDepth 100000 in
theorem reverse3 {w : World} {base g cap : Nat} (a b c : Nat) (h : NatRow w base (.slice (some ⟨g, 0, none⟩) 3 cap) [a, b, c]) :
    Calls Try.prog 14 #[.slice (some ⟨g, 0, none⟩) 3 cap] w fun e w' => e = .returned (.tuple #[]) ∧ NatRow w' base (.slice (some ⟨g, 0, none⟩) 3 cap) [c, b, a] ∧ Below base w w' := by
  have hgb := (h.lt g rfl).1
  have c0 : w.cell? ⟨g, 0, none⟩ = some (.int .i64 (a : Int)) := h.cellAt 0 (by simp)
  have f0 : w.frozen? ⟨g, 0, none⟩ = false := h.frozenAt 0
  have c1 : w.cell? ⟨g, 1, none⟩ = some (.int .i64 (b : Int)) := h.cellAt 1 (by simp)
  have f1 : w.frozen? ⟨g, 1, none⟩ = false := h.frozenAt 1
  have c2 : w.cell? ⟨g, 2, none⟩ = some (.int .i64 (c : Int)) := h.cellAt 2 (by simp)
  have f2 : w.frozen? ⟨g, 2, none⟩ = false := h.frozenAt 2
  have hr := ((h.stored 0 (natV c)).1.stored 2 (natV a)).1
  have HR := Lib.hid hr
  clear h hr
  go_enter Try.func14, Try.ntmps14
  go_wp2
  refine wp_loop_rounds 2 ?_
  rw [rounds_succ]
  go_wp2
  go_region
  all_goals go_wp2
  all_goals (rw [rounds_succ])
  all_goals go_wp2
  all_goals go_end0
  all_goals refine ⟨rfl, ?_, ?_⟩
  · exact row_below (HR.out) (Below.refl _ _).drew
  · repeat (first | refine Below.drew ?_ | refine Below.setCell ?_ (by simpa using hgb) _)
    exact Below.refl _ _
set_option maxRecDepth 100000 in
theorem reverse4 {w : World} {base g cap : Nat} (a b c d : Nat) (h : NatRow w base (.slice (some ⟨g, 0, none⟩) 4 cap) [a, b, c, d]) :
    Calls Try.prog 14 #[.slice (some ⟨g, 0, none⟩) 4 cap] w fun e w' => e = .returned (.tuple #[]) ∧ NatRow w' base (.slice (some ⟨g, 0, none⟩) 4 cap) [d, c, b, a] ∧ Below base w w' := by
  have hgb := (h.lt g rfl).1
  have c0 : w.cell? ⟨g, 0, none⟩ = some (.int .i64 (a : Int)) := h.cellAt 0 (by simp)
  have f0 : w.frozen? ⟨g, 0, none⟩ = false := h.frozenAt 0
  have c1 : w.cell? ⟨g, 1, none⟩ = some (.int .i64 (b : Int)) := h.cellAt 1 (by simp)
  have f1 : w.frozen? ⟨g, 1, none⟩ = false := h.frozenAt 1
  have c2 : w.cell? ⟨g, 2, none⟩ = some (.int .i64 (c : Int)) := h.cellAt 2 (by simp)
  have f2 : w.frozen? ⟨g, 2, none⟩ = false := h.frozenAt 2
  have c3 : w.cell? ⟨g, 3, none⟩ = some (.int .i64 (d : Int)) := h.cellAt 3 (by simp)
  have f3 : w.frozen? ⟨g, 3, none⟩ = false := h.frozenAt 3
  have hr := ((((h.stored 0 (natV d)).1.stored 3 (natV a)).1.stored 1 (natV c)).1.stored 2 (natV b)).1
  have HR := Lib.hid hr
  clear h hr
  go_enter Try.func14, Try.ntmps14
  go_wp2
  refine wp_loop_rounds 3 ?_
  rw [rounds_succ]
  go_wp2
  go_region
  all_goals go_wp2
  rw [rounds_succ]
  go_wp2
  go_region
  all_goals go_wp2
  all_goals (rw [rounds_succ])
  all_goals go_wp2
  all_goals go_end0
  all_goals refine ⟨rfl, ?_, ?_⟩
  · exact row_below (row_below (HR.out) (Below.refl _ _).drew) (Below.refl _ _).drew
  · repeat (first | refine Below.drew ?_ | refine Below.setCell ?_ (by simpa using hgb) _)
    exact Below.refl _ _
set_option maxRecDepth 100000 in
theorem reverse_nil (w : World) (base : Nat) : Calls Try.prog 14 #[.slice none 0 0] w fun e w' => e = .returned (.tuple #[]) ∧ NatRow w' base (.slice none 0 0) [] ∧ Below base w w' := by
  go_enter Try.func14, Try.ntmps14
  go_wp2
  refine wp_loop_rounds 1 ?_
  rw [rounds_succ]
  go_wp2
  go_end0
  exact ⟨rfl, World.ownsRow_nil _ _ _ _, Below.refl _ _⟩
theorem reverse_is {w : World} {base : Nat} {v : Value} {l : List Nat} (h : NatRow w base v l) (h4 : l.length ≤ 4) : Calls Try.prog 14 #[v] w fun e w' => e = .returned (.tuple #[]) ∧ NatRow w' base v l.reverse ∧ Below base w w' := by
  rcases h.2 with ⟨rfl, hn⟩ | ⟨g, cap, cur, rfl, _⟩
  · have : l = [] := List.eq_nil_of_length_eq_zero hn
    subst this
    exact reverse_nil w base
  · match l, h4, h with
    | [], _, h => exact reverse0 h
    | [a], _, h => exact reverse1 a h
    | [a, b], _, h => exact reverse2 a b h
    | [a, b, c], _, h => exact reverse3 a b c h
    | [a, b, c, d], _, h => exact reverse4 a b c d h
    | _ :: _ :: _ :: _ :: _ :: _, h4, _ => simp at h4
end Go.Proofs.Ytopadiofanaaiaa.TurnLaw
