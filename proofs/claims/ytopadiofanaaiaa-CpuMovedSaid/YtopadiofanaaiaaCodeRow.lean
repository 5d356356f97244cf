/- The walk of code.row (printed by wip/tools/gen_code.py). -/
import Derived.Test.YtopadiofanaaiaaCodeNames0
import Derived.Test.YtopadiofanaaiaaCommon
import Derived.WalkSmall
namespace Go.Proofs.Ytopadiofanaaiaa.CodeLaw
open Go.RowKit
set_option linter.unusedVariables false

set_option maxHeartbeats 4000000 in
theorem row_is (op : Int) (w : World) : Calls Try.prog 37 #[.int .i64 op] w fun e w' => e = .returned (.tuple #[.string (rowS op).1, .int .i64 (rowS op).2]) ∧ w = w' := by
  by_cases h : 1 ≤ op ∧ op ≤ 26
  · rcases known_cases h with rfl | rfl | rfl | rfl | rfl | rfl | rfl | rfl | rfl | rfl | rfl | rfl | rfl | rfl | rfl | rfl | rfl | rfl | rfl | rfl | rfl | rfl | rfl | rfl | rfl | rfl
    all_goals
      clear h
      go_enter Try.func37, Try.ntmps37
      go_wp2
      go_ret2
      exact ⟨rfl, rfl⟩
  · have hr := rowS_none h
    rw [hr]
    have b1 : (op == 1) = false := by simp; omega
    have b2 : (op == 2) = false := by simp; omega
    have b3 : (op == 3) = false := by simp; omega
    have b4 : (op == 4) = false := by simp; omega
    have b5 : (op == 5) = false := by simp; omega
    have b6 : (op == 6) = false := by simp; omega
    have b7 : (op == 7) = false := by simp; omega
    have b8 : (op == 8) = false := by simp; omega
    have b9 : (op == 9) = false := by simp; omega
    have b10 : (op == 10) = false := by simp; omega
    have b11 : (op == 11) = false := by simp; omega
    have b12 : (op == 12) = false := by simp; omega
    have b13 : (op == 13) = false := by simp; omega
    have b14 : (op == 14) = false := by simp; omega
    have b15 : (op == 15) = false := by simp; omega
    have b16 : (op == 16) = false := by simp; omega
    have b17 : (op == 17) = false := by simp; omega
    have b18 : (op == 18) = false := by simp; omega
    have b19 : (op == 19) = false := by simp; omega
    have b20 : (op == 20) = false := by simp; omega
    have b21 : (op == 21) = false := by simp; omega
    have b22 : (op == 22) = false := by simp; omega
    have b23 : (op == 23) = false := by simp; omega
    have b24 : (op == 24) = false := by simp; omega
    have b25 : (op == 25) = false := by simp; omega
    have b26 : (op == 26) = false := by simp; omega
    clear h hr
    go_enter Try.func37, Try.ntmps37
    go_wp2
    go_ret2
    exact ⟨rfl, rfl⟩
end Go.Proofs.Ytopadiofanaaiaa.CodeLaw
