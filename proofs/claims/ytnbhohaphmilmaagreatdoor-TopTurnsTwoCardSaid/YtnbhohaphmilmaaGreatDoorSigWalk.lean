/- The walks of package sig (printed by wip/tools/gen_sig.py). -/
import Derived.Test.YtnbhohaphmilmaaGreatDoorSigPlain
import Derived.Test.YtnbhohaphmilmaaGreatDoorProg
import Derived.Test.YtnbhohaphmilmaaGreatDoorCodeRow
import Derived.Test.YtnbhohaphmilmaaGreatDoorBytes
import Derived.WalkSmall
import Derived.BigQuiet
import Derived.BigRegion
namespace Go.Proofs.YtnbhohaphmilmaaGreatDoor.SigLaw
set_option linter.unusedSimpArgs false
open Go.RowKit
set_option linter.unusedVariables false

abbrev listG (g : G) : List Value := [.int .i64 g.p, .int .i64 g.m, .int .i64 (g.h 0), .int .i64 (g.h 1), .int .i64 (g.h 2), .int .i64 (g.h 3), .int .i64 (g.h 4), .int .i64 (g.h 5), .int .i64 (g.h 6), .int .i64 (g.h 7), .int .i64 (g.h 8), .int .i64 (g.h 9), .int .i64 (g.h 10), .int .i64 (g.h 11), .int .i64 (g.h 12), .int .i64 (g.h 13), .int .i64 (g.h 14), .int .i64 (g.h 15)]
abbrev cellsG (g : G) : Obj := .cells #[.int .i64 g.p, .int .i64 g.m, .int .i64 (g.h 0), .int .i64 (g.h 1), .int .i64 (g.h 2), .int .i64 (g.h 3), .int .i64 (g.h 4), .int .i64 (g.h 5), .int .i64 (g.h 6), .int .i64 (g.h 7), .int .i64 (g.h 8), .int .i64 (g.h 9), .int .i64 (g.h 10), .int .i64 (g.h 11), .int .i64 (g.h 12), .int .i64 (g.h 13), .int .i64 (g.h 14), .int .i64 (g.h 15)] 76
abbrev encG (g : G) : Value := .agg #[.int .i64 g.p, .int .i64 g.m, .int .i64 (g.h 0), .int .i64 (g.h 1), .int .i64 (g.h 2), .int .i64 (g.h 3), .int .i64 (g.h 4), .int .i64 (g.h 5), .int .i64 (g.h 6), .int .i64 (g.h 7), .int .i64 (g.h 8), .int .i64 (g.h 9), .int .i64 (g.h 10), .int .i64 (g.h 11), .int .i64 (g.h 12), .int .i64 (g.h 13), .int .i64 (g.h 14), .int .i64 (g.h 15)]
abbrev zeroG : G := ⟨0, 0, fun _ => 0⟩
abbrev arrG (g : G) : Value := .agg #[.int .i64 (g.h 0), .int .i64 (g.h 1), .int .i64 (g.h 2), .int .i64 (g.h 3), .int .i64 (g.h 4), .int .i64 (g.h 5), .int .i64 (g.h 6), .int .i64 (g.h 7), .int .i64 (g.h 8), .int .i64 (g.h 9), .int .i64 (g.h 10), .int .i64 (g.h 11), .int .i64 (g.h 12), .int .i64 (g.h 13), .int .i64 (g.h 14), .int .i64 (g.h 15)]
theorem number_any (n : Int) (w : World) : Calls Tryz.prog 190 #[.int .i64 n] w fun e w' => e = .returned (.bool (decide (1 ≤ n) && decide (n ≤ 15))) ∧ w = w' := by
  by_cases h1 : 1 ≤ n
  · by_cases h2 : n ≤ 15
    · go_enter Tryz.func190, Tryz.ntmps190
      go_wp2
      go_ret
      exact ⟨by simp [h1, h2], rfl⟩
    · go_enter Tryz.func190, Tryz.ntmps190
      go_wp2
      go_ret
      exact ⟨by simp [h1, h2], rfl⟩
  · go_enter Tryz.func190, Tryz.ntmps190
    go_wp2
    go_ret
    exact ⟨by rw [show decide (1 ≤ n) = false from by simp; omega]; rfl, rfl⟩

def CheckPost (g : G) (w : World) (e : Ending) (w' : World) : Prop := ∃ en : Int, e = .returned (.int .i64 en) ∧ Below w.heap.size w w' ∧ (en = 0 ∧ good g ∨ en ≠ 0 ∧ ¬ good g)
theorem checkPost_bad {g : G} {w w' : World} {en : Int} (h : ¬ good g) (he : en ≠ 0) (hb : Below w.heap.size w w') : CheckPost g w (.returned (.int .i64 en)) w' := ⟨en, rfl, hb, .inr ⟨he, h⟩⟩
theorem new_any (w : World) (g : G) : Below w.heap.size w (w.alloc (cellsG g)) := (Below.refl _ _).alloc (Nat.le_refl _) _

theorem ix0 (g : G) (w : World) : (Instr.index 74 (.agg #[.int .i64 (g.h 0), .int .i64 (g.h 1), .int .i64 (g.h 2), .int .i64 (g.h 3), .int .i64 (g.h 4), .int .i64 (g.h 5), .int .i64 (g.h 6), .int .i64 (g.h 7), .int .i64 (g.h 8), .int .i64 (g.h 9), .int .i64 (g.h 10), .int .i64 (g.h 11), .int .i64 (g.h 12), .int .i64 (g.h 13), .int .i64 (g.h 14), .int .i64 (g.h 15)]) (.int .i64 0)).run Tryz.prog w = .ok (.int .i64 (g.h 0)) w := by kernel_rfl
theorem ix1 (g : G) (w : World) : (Instr.index 74 (.agg #[.int .i64 (g.h 0), .int .i64 (g.h 1), .int .i64 (g.h 2), .int .i64 (g.h 3), .int .i64 (g.h 4), .int .i64 (g.h 5), .int .i64 (g.h 6), .int .i64 (g.h 7), .int .i64 (g.h 8), .int .i64 (g.h 9), .int .i64 (g.h 10), .int .i64 (g.h 11), .int .i64 (g.h 12), .int .i64 (g.h 13), .int .i64 (g.h 14), .int .i64 (g.h 15)]) (.int .i64 1)).run Tryz.prog w = .ok (.int .i64 (g.h 1)) w := by kernel_rfl
theorem ix2 (g : G) (w : World) : (Instr.index 74 (.agg #[.int .i64 (g.h 0), .int .i64 (g.h 1), .int .i64 (g.h 2), .int .i64 (g.h 3), .int .i64 (g.h 4), .int .i64 (g.h 5), .int .i64 (g.h 6), .int .i64 (g.h 7), .int .i64 (g.h 8), .int .i64 (g.h 9), .int .i64 (g.h 10), .int .i64 (g.h 11), .int .i64 (g.h 12), .int .i64 (g.h 13), .int .i64 (g.h 14), .int .i64 (g.h 15)]) (.int .i64 2)).run Tryz.prog w = .ok (.int .i64 (g.h 2)) w := by kernel_rfl
theorem ix3 (g : G) (w : World) : (Instr.index 74 (.agg #[.int .i64 (g.h 0), .int .i64 (g.h 1), .int .i64 (g.h 2), .int .i64 (g.h 3), .int .i64 (g.h 4), .int .i64 (g.h 5), .int .i64 (g.h 6), .int .i64 (g.h 7), .int .i64 (g.h 8), .int .i64 (g.h 9), .int .i64 (g.h 10), .int .i64 (g.h 11), .int .i64 (g.h 12), .int .i64 (g.h 13), .int .i64 (g.h 14), .int .i64 (g.h 15)]) (.int .i64 3)).run Tryz.prog w = .ok (.int .i64 (g.h 3)) w := by kernel_rfl
theorem ix4 (g : G) (w : World) : (Instr.index 74 (.agg #[.int .i64 (g.h 0), .int .i64 (g.h 1), .int .i64 (g.h 2), .int .i64 (g.h 3), .int .i64 (g.h 4), .int .i64 (g.h 5), .int .i64 (g.h 6), .int .i64 (g.h 7), .int .i64 (g.h 8), .int .i64 (g.h 9), .int .i64 (g.h 10), .int .i64 (g.h 11), .int .i64 (g.h 12), .int .i64 (g.h 13), .int .i64 (g.h 14), .int .i64 (g.h 15)]) (.int .i64 4)).run Tryz.prog w = .ok (.int .i64 (g.h 4)) w := by kernel_rfl
theorem ix5 (g : G) (w : World) : (Instr.index 74 (.agg #[.int .i64 (g.h 0), .int .i64 (g.h 1), .int .i64 (g.h 2), .int .i64 (g.h 3), .int .i64 (g.h 4), .int .i64 (g.h 5), .int .i64 (g.h 6), .int .i64 (g.h 7), .int .i64 (g.h 8), .int .i64 (g.h 9), .int .i64 (g.h 10), .int .i64 (g.h 11), .int .i64 (g.h 12), .int .i64 (g.h 13), .int .i64 (g.h 14), .int .i64 (g.h 15)]) (.int .i64 5)).run Tryz.prog w = .ok (.int .i64 (g.h 5)) w := by kernel_rfl
theorem ix6 (g : G) (w : World) : (Instr.index 74 (.agg #[.int .i64 (g.h 0), .int .i64 (g.h 1), .int .i64 (g.h 2), .int .i64 (g.h 3), .int .i64 (g.h 4), .int .i64 (g.h 5), .int .i64 (g.h 6), .int .i64 (g.h 7), .int .i64 (g.h 8), .int .i64 (g.h 9), .int .i64 (g.h 10), .int .i64 (g.h 11), .int .i64 (g.h 12), .int .i64 (g.h 13), .int .i64 (g.h 14), .int .i64 (g.h 15)]) (.int .i64 6)).run Tryz.prog w = .ok (.int .i64 (g.h 6)) w := by kernel_rfl
theorem ix7 (g : G) (w : World) : (Instr.index 74 (.agg #[.int .i64 (g.h 0), .int .i64 (g.h 1), .int .i64 (g.h 2), .int .i64 (g.h 3), .int .i64 (g.h 4), .int .i64 (g.h 5), .int .i64 (g.h 6), .int .i64 (g.h 7), .int .i64 (g.h 8), .int .i64 (g.h 9), .int .i64 (g.h 10), .int .i64 (g.h 11), .int .i64 (g.h 12), .int .i64 (g.h 13), .int .i64 (g.h 14), .int .i64 (g.h 15)]) (.int .i64 7)).run Tryz.prog w = .ok (.int .i64 (g.h 7)) w := by kernel_rfl
theorem ix8 (g : G) (w : World) : (Instr.index 74 (.agg #[.int .i64 (g.h 0), .int .i64 (g.h 1), .int .i64 (g.h 2), .int .i64 (g.h 3), .int .i64 (g.h 4), .int .i64 (g.h 5), .int .i64 (g.h 6), .int .i64 (g.h 7), .int .i64 (g.h 8), .int .i64 (g.h 9), .int .i64 (g.h 10), .int .i64 (g.h 11), .int .i64 (g.h 12), .int .i64 (g.h 13), .int .i64 (g.h 14), .int .i64 (g.h 15)]) (.int .i64 8)).run Tryz.prog w = .ok (.int .i64 (g.h 8)) w := by kernel_rfl
theorem ix9 (g : G) (w : World) : (Instr.index 74 (.agg #[.int .i64 (g.h 0), .int .i64 (g.h 1), .int .i64 (g.h 2), .int .i64 (g.h 3), .int .i64 (g.h 4), .int .i64 (g.h 5), .int .i64 (g.h 6), .int .i64 (g.h 7), .int .i64 (g.h 8), .int .i64 (g.h 9), .int .i64 (g.h 10), .int .i64 (g.h 11), .int .i64 (g.h 12), .int .i64 (g.h 13), .int .i64 (g.h 14), .int .i64 (g.h 15)]) (.int .i64 9)).run Tryz.prog w = .ok (.int .i64 (g.h 9)) w := by kernel_rfl
theorem ix10 (g : G) (w : World) : (Instr.index 74 (.agg #[.int .i64 (g.h 0), .int .i64 (g.h 1), .int .i64 (g.h 2), .int .i64 (g.h 3), .int .i64 (g.h 4), .int .i64 (g.h 5), .int .i64 (g.h 6), .int .i64 (g.h 7), .int .i64 (g.h 8), .int .i64 (g.h 9), .int .i64 (g.h 10), .int .i64 (g.h 11), .int .i64 (g.h 12), .int .i64 (g.h 13), .int .i64 (g.h 14), .int .i64 (g.h 15)]) (.int .i64 10)).run Tryz.prog w = .ok (.int .i64 (g.h 10)) w := by kernel_rfl
theorem ix11 (g : G) (w : World) : (Instr.index 74 (.agg #[.int .i64 (g.h 0), .int .i64 (g.h 1), .int .i64 (g.h 2), .int .i64 (g.h 3), .int .i64 (g.h 4), .int .i64 (g.h 5), .int .i64 (g.h 6), .int .i64 (g.h 7), .int .i64 (g.h 8), .int .i64 (g.h 9), .int .i64 (g.h 10), .int .i64 (g.h 11), .int .i64 (g.h 12), .int .i64 (g.h 13), .int .i64 (g.h 14), .int .i64 (g.h 15)]) (.int .i64 11)).run Tryz.prog w = .ok (.int .i64 (g.h 11)) w := by kernel_rfl
theorem ix12 (g : G) (w : World) : (Instr.index 74 (.agg #[.int .i64 (g.h 0), .int .i64 (g.h 1), .int .i64 (g.h 2), .int .i64 (g.h 3), .int .i64 (g.h 4), .int .i64 (g.h 5), .int .i64 (g.h 6), .int .i64 (g.h 7), .int .i64 (g.h 8), .int .i64 (g.h 9), .int .i64 (g.h 10), .int .i64 (g.h 11), .int .i64 (g.h 12), .int .i64 (g.h 13), .int .i64 (g.h 14), .int .i64 (g.h 15)]) (.int .i64 12)).run Tryz.prog w = .ok (.int .i64 (g.h 12)) w := by kernel_rfl
theorem ix13 (g : G) (w : World) : (Instr.index 74 (.agg #[.int .i64 (g.h 0), .int .i64 (g.h 1), .int .i64 (g.h 2), .int .i64 (g.h 3), .int .i64 (g.h 4), .int .i64 (g.h 5), .int .i64 (g.h 6), .int .i64 (g.h 7), .int .i64 (g.h 8), .int .i64 (g.h 9), .int .i64 (g.h 10), .int .i64 (g.h 11), .int .i64 (g.h 12), .int .i64 (g.h 13), .int .i64 (g.h 14), .int .i64 (g.h 15)]) (.int .i64 13)).run Tryz.prog w = .ok (.int .i64 (g.h 13)) w := by kernel_rfl
theorem ix14 (g : G) (w : World) : (Instr.index 74 (.agg #[.int .i64 (g.h 0), .int .i64 (g.h 1), .int .i64 (g.h 2), .int .i64 (g.h 3), .int .i64 (g.h 4), .int .i64 (g.h 5), .int .i64 (g.h 6), .int .i64 (g.h 7), .int .i64 (g.h 8), .int .i64 (g.h 9), .int .i64 (g.h 10), .int .i64 (g.h 11), .int .i64 (g.h 12), .int .i64 (g.h 13), .int .i64 (g.h 14), .int .i64 (g.h 15)]) (.int .i64 14)).run Tryz.prog w = .ok (.int .i64 (g.h 14)) w := by kernel_rfl
theorem ix15 (g : G) (w : World) : (Instr.index 74 (.agg #[.int .i64 (g.h 0), .int .i64 (g.h 1), .int .i64 (g.h 2), .int .i64 (g.h 3), .int .i64 (g.h 4), .int .i64 (g.h 5), .int .i64 (g.h 6), .int .i64 (g.h 7), .int .i64 (g.h 8), .int .i64 (g.h 9), .int .i64 (g.h 10), .int .i64 (g.h 11), .int .i64 (g.h 12), .int .i64 (g.h 13), .int .i64 (g.h 14), .int .i64 (g.h 15)]) (.int .i64 15)).run Tryz.prog w = .ok (.int .i64 (g.h 15)) w := by kernel_rfl
theorem listG_at (g : G) (k : Nat) (hk : k < 16) : (listG g)[2 + k]? = some (.int .i64 (g.h k)) := by
  have : k = 0 ∨ k = 1 ∨ k = 2 ∨ k = 3 ∨ k = 4 ∨ k = 5 ∨ k = 6 ∨ k = 7 ∨ k = 8 ∨ k = 9 ∨ k = 10 ∨ k = 11 ∨ k = 12 ∨ k = 13 ∨ k = 14 ∨ k = 15 := by omega
  rcases this with rfl | rfl | rfl | rfl | rfl | rfl | rfl | rfl | rfl | rfl | rfl | rfl | rfl | rfl | rfl | rfl <;> rfl
theorem nogood_neg {g : G} {j : Nat} (hj : j < 16) (h : g.h j < 0) : ¬ good g := by
  rintro ⟨P, M, hr⟩
  have := hr.h j hj
  omega
theorem nogood_zero {g : G} (h : g.h 0 ≠ 0) : ¬ good g := by
  rintro ⟨P, M, hr⟩
  exact h hr.h0
theorem nogood_p {g : G} (h : fitB g.p = false) : ¬ good g := by
  rintro ⟨P, M, hr⟩
  rw [hr.p, nat_fit P hr.pl hr.p0] at h
  cases h
theorem nogood_m {g : G} (h : fitB g.m = false) : ¬ good g := by
  rintro ⟨P, M, hr⟩
  rw [hr.m, nat_fit M hr.ml hr.m0] at h
  cases h

set_option maxRecDepth 100000 in
set_option maxHeartbeats 4000000 in
theorem check_is (g : G) (w : World) (p0 : -2 ^ 63 ≤ g.p) (p1 : g.p < 2 ^ 63) (m0 : -2 ^ 63 ≤ g.m) (m1 : g.m < 2 ^ 63) : Calls Tryz.prog 189 #[encG g] w (CheckPost g w) := by
  have hpost : ∀ e w', CheckPost g w e w' → CheckPost g w e w' := fun _ _ h => h
  by_cases hp : fitB g.p = true
  · by_cases hm : fitB g.m = true
    · obtain ⟨P, hP, pl, pb⟩ := fit_nat p0 p1 hp
      obtain ⟨M, hM, ml, mb⟩ := fit_nat m0 m1 hm
      have tp : (bits .andNot .i64 g.p 65534 != 0) = false := by
        have := hp; unfold fitB at this; simpa using this
      have tm : (bits .andNot .i64 g.m 65534 != 0) = false := by
        have := hm; unfold fitB at this; simpa using this
      have HP := Lib.hid (And.intro hP (And.intro pl pb))
      have HM := Lib.hid (And.intro hM (And.intro ml mb))
      have HT := Lib.hid (show (bits .and .i64 (g.m / 512) 1 == 1) = M.testBit 9 by
        have := bit_eq M 9 ml
        rw [hM]; exact this)
      clear hp hm hP pl pb hM ml mb p0 p1 m0 m1 hpost
      go_enter Tryz.func189, Tryz.ntmps189
      go_wp2
      go_loop [17] (fun i => ∃ k : Nat, k ≤ 16 ∧ i = .int .i64 k ∧ Hid (∀ j, j < k → 0 ≤ g.h j) ∧ Hid (1 ≤ k → g.h 0 = 0)) (fun i => 16 - (intOf i).toNat)
      case atStart => exact ⟨0, by omega, rfl, fun j hj => absurd hj (Nat.not_lt_zero _), fun h => absurd h (by decide)⟩
      case round =>
        obtain ⟨k, hk, rfl, HK, H0⟩ := hrel
        by_cases hlt : k < 16
        · have hcase : k = 0 ∨ k = 1 ∨ k = 2 ∨ k = 3 ∨ k = 4 ∨ k = 5 ∨ k = 6 ∨ k = 7 ∨ k = 8 ∨ k = 9 ∨ k = 10 ∨ k = 11 ∨ k = 12 ∨ k = 13 ∨ k = 14 ∨ k = 15 := by omega
          clear hk hlt tp tm
          rcases hcase with rfl | rfl | rfl | rfl | rfl | rfl | rfl | rfl | rfl | rfl | rfl | rfl | rfl | rfl | rfl | rfl
          · have hix := ix0 g
            rcases (show g.h 0 < 0 ∨ (0 < g.h 0) ∨ (g.h 0 = 0) by omega) with hh | hh | hh
            · have hbad := nogood_neg (g := g) (j := 0) (by decide) hh
              go_wp2
              go_ret
              exact checkPost_bad hbad (by decide) (new_any _ _)
            · have hbad := nogood_zero (g := g) (by omega)
              have q1 : (g.h 0 != 0) = true := by simp; omega
              go_wp2
              go_ret
              exact checkPost_bad hbad (by decide) (new_any _ _)
            · have q1 : (g.h 0 != 0) = false := by simp [hh]
              have q2 : 0 ≤ g.h 0 := by omega
              have HH := Lib.hid hh
              clear hh
              go_wp2
              go_round
              case rel =>
                refine ⟨1, by omega, by go_num, fun j hj => ?_, fun _ => HH.out⟩
                rcases Nat.lt_succ_iff_lt_or_eq.1 hj with h | rfl
                · exact HK.out j h
                · omega
              case measure => simp [intOf]
          · have hix := ix1 g
            rcases (show g.h 1 < 0 ∨ (False) ∨ (0 ≤ g.h 1) by omega) with hh | hh | hh
            · have hbad := nogood_neg (g := g) (j := 1) (by decide) hh
              go_wp2
              go_ret
              exact checkPost_bad hbad (by decide) (new_any _ _)
            · exact hh.elim
            · skip
              go_wp2
              go_round
              case rel =>
                refine ⟨2, by omega, by go_num, fun j hj => ?_, fun _ => H0.out (by decide)⟩
                rcases Nat.lt_succ_iff_lt_or_eq.1 hj with h | rfl
                · exact HK.out j h
                · omega
              case measure => simp [intOf]
          · have hix := ix2 g
            rcases (show g.h 2 < 0 ∨ (False) ∨ (0 ≤ g.h 2) by omega) with hh | hh | hh
            · have hbad := nogood_neg (g := g) (j := 2) (by decide) hh
              go_wp2
              go_ret
              exact checkPost_bad hbad (by decide) (new_any _ _)
            · exact hh.elim
            · skip
              go_wp2
              go_round
              case rel =>
                refine ⟨3, by omega, by go_num, fun j hj => ?_, fun _ => H0.out (by decide)⟩
                rcases Nat.lt_succ_iff_lt_or_eq.1 hj with h | rfl
                · exact HK.out j h
                · omega
              case measure => simp [intOf]
          · have hix := ix3 g
            rcases (show g.h 3 < 0 ∨ (False) ∨ (0 ≤ g.h 3) by omega) with hh | hh | hh
            · have hbad := nogood_neg (g := g) (j := 3) (by decide) hh
              go_wp2
              go_ret
              exact checkPost_bad hbad (by decide) (new_any _ _)
            · exact hh.elim
            · skip
              go_wp2
              go_round
              case rel =>
                refine ⟨4, by omega, by go_num, fun j hj => ?_, fun _ => H0.out (by decide)⟩
                rcases Nat.lt_succ_iff_lt_or_eq.1 hj with h | rfl
                · exact HK.out j h
                · omega
              case measure => simp [intOf]
          · have hix := ix4 g
            rcases (show g.h 4 < 0 ∨ (False) ∨ (0 ≤ g.h 4) by omega) with hh | hh | hh
            · have hbad := nogood_neg (g := g) (j := 4) (by decide) hh
              go_wp2
              go_ret
              exact checkPost_bad hbad (by decide) (new_any _ _)
            · exact hh.elim
            · skip
              go_wp2
              go_round
              case rel =>
                refine ⟨5, by omega, by go_num, fun j hj => ?_, fun _ => H0.out (by decide)⟩
                rcases Nat.lt_succ_iff_lt_or_eq.1 hj with h | rfl
                · exact HK.out j h
                · omega
              case measure => simp [intOf]
          · have hix := ix5 g
            rcases (show g.h 5 < 0 ∨ (False) ∨ (0 ≤ g.h 5) by omega) with hh | hh | hh
            · have hbad := nogood_neg (g := g) (j := 5) (by decide) hh
              go_wp2
              go_ret
              exact checkPost_bad hbad (by decide) (new_any _ _)
            · exact hh.elim
            · skip
              go_wp2
              go_round
              case rel =>
                refine ⟨6, by omega, by go_num, fun j hj => ?_, fun _ => H0.out (by decide)⟩
                rcases Nat.lt_succ_iff_lt_or_eq.1 hj with h | rfl
                · exact HK.out j h
                · omega
              case measure => simp [intOf]
          · have hix := ix6 g
            rcases (show g.h 6 < 0 ∨ (False) ∨ (0 ≤ g.h 6) by omega) with hh | hh | hh
            · have hbad := nogood_neg (g := g) (j := 6) (by decide) hh
              go_wp2
              go_ret
              exact checkPost_bad hbad (by decide) (new_any _ _)
            · exact hh.elim
            · skip
              go_wp2
              go_round
              case rel =>
                refine ⟨7, by omega, by go_num, fun j hj => ?_, fun _ => H0.out (by decide)⟩
                rcases Nat.lt_succ_iff_lt_or_eq.1 hj with h | rfl
                · exact HK.out j h
                · omega
              case measure => simp [intOf]
          · have hix := ix7 g
            rcases (show g.h 7 < 0 ∨ (False) ∨ (0 ≤ g.h 7) by omega) with hh | hh | hh
            · have hbad := nogood_neg (g := g) (j := 7) (by decide) hh
              go_wp2
              go_ret
              exact checkPost_bad hbad (by decide) (new_any _ _)
            · exact hh.elim
            · skip
              go_wp2
              go_round
              case rel =>
                refine ⟨8, by omega, by go_num, fun j hj => ?_, fun _ => H0.out (by decide)⟩
                rcases Nat.lt_succ_iff_lt_or_eq.1 hj with h | rfl
                · exact HK.out j h
                · omega
              case measure => simp [intOf]
          · have hix := ix8 g
            rcases (show g.h 8 < 0 ∨ (False) ∨ (0 ≤ g.h 8) by omega) with hh | hh | hh
            · have hbad := nogood_neg (g := g) (j := 8) (by decide) hh
              go_wp2
              go_ret
              exact checkPost_bad hbad (by decide) (new_any _ _)
            · exact hh.elim
            · skip
              go_wp2
              go_round
              case rel =>
                refine ⟨9, by omega, by go_num, fun j hj => ?_, fun _ => H0.out (by decide)⟩
                rcases Nat.lt_succ_iff_lt_or_eq.1 hj with h | rfl
                · exact HK.out j h
                · omega
              case measure => simp [intOf]
          · have hix := ix9 g
            rcases (show g.h 9 < 0 ∨ (False) ∨ (0 ≤ g.h 9) by omega) with hh | hh | hh
            · have hbad := nogood_neg (g := g) (j := 9) (by decide) hh
              go_wp2
              go_ret
              exact checkPost_bad hbad (by decide) (new_any _ _)
            · exact hh.elim
            · skip
              go_wp2
              go_round
              case rel =>
                refine ⟨10, by omega, by go_num, fun j hj => ?_, fun _ => H0.out (by decide)⟩
                rcases Nat.lt_succ_iff_lt_or_eq.1 hj with h | rfl
                · exact HK.out j h
                · omega
              case measure => simp [intOf]
          · have hix := ix10 g
            rcases (show g.h 10 < 0 ∨ (False) ∨ (0 ≤ g.h 10) by omega) with hh | hh | hh
            · have hbad := nogood_neg (g := g) (j := 10) (by decide) hh
              go_wp2
              go_ret
              exact checkPost_bad hbad (by decide) (new_any _ _)
            · exact hh.elim
            · skip
              go_wp2
              go_round
              case rel =>
                refine ⟨11, by omega, by go_num, fun j hj => ?_, fun _ => H0.out (by decide)⟩
                rcases Nat.lt_succ_iff_lt_or_eq.1 hj with h | rfl
                · exact HK.out j h
                · omega
              case measure => simp [intOf]
          · have hix := ix11 g
            rcases (show g.h 11 < 0 ∨ (False) ∨ (0 ≤ g.h 11) by omega) with hh | hh | hh
            · have hbad := nogood_neg (g := g) (j := 11) (by decide) hh
              go_wp2
              go_ret
              exact checkPost_bad hbad (by decide) (new_any _ _)
            · exact hh.elim
            · skip
              go_wp2
              go_round
              case rel =>
                refine ⟨12, by omega, by go_num, fun j hj => ?_, fun _ => H0.out (by decide)⟩
                rcases Nat.lt_succ_iff_lt_or_eq.1 hj with h | rfl
                · exact HK.out j h
                · omega
              case measure => simp [intOf]
          · have hix := ix12 g
            rcases (show g.h 12 < 0 ∨ (False) ∨ (0 ≤ g.h 12) by omega) with hh | hh | hh
            · have hbad := nogood_neg (g := g) (j := 12) (by decide) hh
              go_wp2
              go_ret
              exact checkPost_bad hbad (by decide) (new_any _ _)
            · exact hh.elim
            · skip
              go_wp2
              go_round
              case rel =>
                refine ⟨13, by omega, by go_num, fun j hj => ?_, fun _ => H0.out (by decide)⟩
                rcases Nat.lt_succ_iff_lt_or_eq.1 hj with h | rfl
                · exact HK.out j h
                · omega
              case measure => simp [intOf]
          · have hix := ix13 g
            rcases (show g.h 13 < 0 ∨ (False) ∨ (0 ≤ g.h 13) by omega) with hh | hh | hh
            · have hbad := nogood_neg (g := g) (j := 13) (by decide) hh
              go_wp2
              go_ret
              exact checkPost_bad hbad (by decide) (new_any _ _)
            · exact hh.elim
            · skip
              go_wp2
              go_round
              case rel =>
                refine ⟨14, by omega, by go_num, fun j hj => ?_, fun _ => H0.out (by decide)⟩
                rcases Nat.lt_succ_iff_lt_or_eq.1 hj with h | rfl
                · exact HK.out j h
                · omega
              case measure => simp [intOf]
          · have hix := ix14 g
            rcases (show g.h 14 < 0 ∨ (False) ∨ (0 ≤ g.h 14) by omega) with hh | hh | hh
            · have hbad := nogood_neg (g := g) (j := 14) (by decide) hh
              go_wp2
              go_ret
              exact checkPost_bad hbad (by decide) (new_any _ _)
            · exact hh.elim
            · skip
              go_wp2
              go_round
              case rel =>
                refine ⟨15, by omega, by go_num, fun j hj => ?_, fun _ => H0.out (by decide)⟩
                rcases Nat.lt_succ_iff_lt_or_eq.1 hj with h | rfl
                · exact HK.out j h
                · omega
              case measure => simp [intOf]
          · have hix := ix15 g
            rcases (show g.h 15 < 0 ∨ (False) ∨ (0 ≤ g.h 15) by omega) with hh | hh | hh
            · have hbad := nogood_neg (g := g) (j := 15) (by decide) hh
              go_wp2
              go_ret
              exact checkPost_bad hbad (by decide) (new_any _ _)
            · exact hh.elim
            · skip
              go_wp2
              go_round
              case rel =>
                refine ⟨16, by omega, by go_num, fun j hj => ?_, fun _ => H0.out (by decide)⟩
                rcases Nat.lt_succ_iff_lt_or_eq.1 hj with h | rfl
                · exact HK.out j h
                · omega
              case measure => simp [intOf]
        · obtain rfl : k = 16 := by omega
          clear hlt hk
          by_cases h9 : M.testBit 9 = true
          · have tt : (bits .and .i64 (g.m / 512) 1 == 1) = true := HT.out.trans h9
            have hbad : ¬ good g := by
              rintro ⟨P2, M2, hr⟩
              have e : M2 = M := by have := hr.m; have := HM.out.1; omega
              have := hr.m9
              rw [e, h9] at this; cases this
            go_wp2
            go_ret
            exact checkPost_bad hbad (by decide) (new_any _ _)
          · have h9' : M.testBit 9 = false := by simpa using h9
            have tt : (bits .and .i64 (g.m / 512) 1 == 1) = false := HT.out.trans h9'
            by_cases hz : g.h 9 = 0
            · have hgood : good g := ⟨P, M, HP.out.1, HM.out.1, HP.out.2.1, HP.out.2.2, HM.out.2.1, HM.out.2.2, h9', HK.out, H0.out (by decide), hz⟩
              have HG := Lib.hid hgood
              have z2 : (g.h 9 != 0) = false := by simp [hz]
              clear hgood h9 h9' hz
              go_wp2
              go_ret
              exact ⟨0, rfl, new_any _ _, .inl ⟨rfl, HG.out⟩⟩
            · have hbad : ¬ good g := by
                rintro ⟨P2, M2, hr⟩
                exact hz hr.h9
              have hz' : (g.h 9 != 0) = true := by simp [hz]
              have HBD := Lib.hid hbad
              clear hbad h9 h9' hz
              go_wp2
              go_ret
              exact checkPost_bad HBD.out (by decide) (new_any _ _)
    · have hbad := nogood_m (g := g) (by simpa using hm)
      have tm : (bits .andNot .i64 g.m 65534 != 0) = true := by
        have : fitB g.m = false := by simpa using hm
        unfold fitB at this; simpa using this
      have tp : (bits .andNot .i64 g.p 65534 != 0) = false := by
        have := hp; unfold fitB at this; simpa using this
      have HBD := Lib.hid hbad
      clear hbad hm hp p0 p1 m0 m1
      go_enter Tryz.func189, Tryz.ntmps189
      go_wp2
      go_ret
      exact checkPost_bad HBD.out (by decide) (new_any _ _)
  · have hbad := nogood_p (g := g) (by simpa using hp)
    have tp : (bits .andNot .i64 g.p 65534 != 0) = true := by
      have : fitB g.p = false := by simpa using hp
      unfold fitB at this; simpa using this
    have HBD := Lib.hid hbad
    clear hbad hp p0 p1 m0 m1
    go_enter Tryz.func189, Tryz.ntmps189
    go_wp2
    go_ret
    exact checkPost_bad HBD.out (by decide) (new_any _ _)

end Go.Proofs.YtnbhohaphmilmaaGreatDoor.SigLaw
