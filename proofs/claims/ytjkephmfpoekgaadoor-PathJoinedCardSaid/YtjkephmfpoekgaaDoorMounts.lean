/- The walks of package mount where nothing is mounted. -/
import Derived.Test.YtjkephmfpoekgaaDoorTreeLook
namespace Go.Proofs.YtjkephmfpoekgaaDoor.PathLaw
open Go.RowKit Go.Proofs.YtjkephmfpoekgaaDoor.CredLaw
set_option linter.unusedVariables false
set_option linter.unusedSimpArgs false
set_option maxRecDepth 100000 in
theorem mcheck_nil (w : World) : Calls Tryd.prog 20 #[.slice none 0 0] w fun e w' => e = .returned (.int .i64 0) ∧ w = w' := by
  go_enter Tryd.func20, Tryd.ntmps20
  go_wp2
  refine wp_loop_rounds 1 ?_
  rw [rounds_succ]
  go_wp2
  refine wp_loop_rounds 1 ?_
  rw [rounds_succ]
  go_wp2
  go_ret
  exact ⟨rfl, rfl⟩
set_option maxRecDepth 100000 in
theorem ino_any (n : Int) (w : World) : Calls Tryd.prog 33 #[.int .i64 n] w fun e w' => e = .returned (.bool (inoOk n)) ∧ w = w' := by
  by_cases h1 : 1 ≤ n
  · by_cases h2 : n ≤ 32
    · have HS := Lib.hid (show inoOk n = true by simp [inoOk, h1, h2])
      go_enter Tryd.func33, Tryd.ntmps33
      go_wp2
      go_ret
      exact ⟨ret_bool HS.out.symm, rfl⟩
    · have HS := Lib.hid (show inoOk n = false by simp [inoOk, h1, h2])
      go_enter Tryd.func33, Tryd.ntmps33
      go_wp2
      go_ret
      exact ⟨ret_bool HS.out.symm, rfl⟩
  · have HS := Lib.hid (show inoOk n = false by simp [inoOk, h1])
    go_enter Tryd.func33, Tryd.ntmps33
    go_wp2
    go_ret
    exact ⟨ret_bool HS.out.symm, rfl⟩
set_option maxRecDepth 100000 in
theorem indexf_nil (f : Value) (w : World) : Calls Tryd.prog 48 #[.slice none 0 0, f] w fun e w' => e = .returned (.int .i64 (-1)) ∧ w = w' := by
  go_enter Tryd.func48, Tryd.ntmps48
  go_wp2_with fail
  refine wp_loop_rounds 1 ?_
  rw [rounds_succ]
  go_wp2
  go_ret
  exact ⟨rfl, rfl⟩
set_option maxRecDepth 100000 in
theorem find_nil (n : Int) (w : World) : Calls Tryd.prog 34 #[.slice none 0 0, .int .i64 n] w fun e w' => e = .returned (.int .i64 (-1)) ∧ Below w.heap.size w w' := by
  go_enter Tryd.func34, Tryd.ntmps34
  go_wp2_with fail
  refine (indexf_nil _ _).mono ?_
  rintro e w1 ⟨rfl, rfl⟩
  go_wp2
  go_ret
  exact ⟨rfl, Go.Joins.below_alloc1 _ _⟩
set_option maxRecDepth 100000 in
theorem down_nil (n : Int) (w : World) : Calls Tryd.prog 35 #[.slice none 0 0, .int .i64 n] w fun e w' => e = .returned (.tuple #[.int .i64 n, .bool true]) ∧ Below w.heap.size w w' := by
  go_enter Tryd.func35, Tryd.ntmps35
  go_wp2_with fail
  refine wp_loop_rounds 2 ?_
  rw [rounds_succ]
  go_wp2_with fail
  refine (find_nil _ _).mono ?_
  rintro e w1 ⟨rfl, hb1⟩
  go_wp2
  go_ret2
  exact ⟨rfl, hb1⟩
def downR (n : Int) : Int × Int := if inoOk n then (n, 0) else (0, 1)
set_option maxRecDepth 100000 in
theorem downs_nil (n : Int) (w : World) : Calls Tryd.prog 26 #[.slice none 0 0, .int .i64 n] w fun e w' => e = .returned (.tuple #[.int .i64 (downR n).1, .int .i64 (downR n).2]) ∧ Below w.heap.size w w' := by
  have hi := ino_any n w
  cases h : inoOk n
  · rw [h] at hi
    have HI := Lib.hid hi
    have HS := Lib.hid (show downR n = (0, 1) by rw [downR, h]; rfl)
    clear hi h
    go_enter Tryd.func26, Tryd.ntmps26
    go_wp2_with (first | (go_at_call 20; refine (mcheck_nil _).mono ?_; rintro e w1 ⟨rfl, rfl⟩) | (go_at_call 33; refine HI.out.mono ?_; rintro e w1 ⟨rfl, rfl⟩))
    go_ret2
    exact ⟨ret_ii HS.out, Below.refl _ _⟩
  · rw [h] at hi
    have HI := Lib.hid hi
    have HS := Lib.hid (show downR n = (n, 0) by rw [downR, h]; rfl)
    clear hi h
    go_enter Tryd.func26, Tryd.ntmps26
    go_wp2_with (first | (go_at_call 20; refine (mcheck_nil _).mono ?_; rintro e w1 ⟨rfl, rfl⟩) | (go_at_call 33; refine HI.out.mono ?_; rintro e w1 ⟨rfl, rfl⟩) | (go_at_call 35; refine (down_nil _ _).mono ?_; rintro e w1 ⟨rfl, hb1⟩))
    go_ret2
    exact ⟨ret_ii HS.out, hb1⟩
end Go.Proofs.YtjkephmfpoekgaaDoor.PathLaw
