/- The walk of ringkeep5.CodeNames. -/
import Derived.Test.YtddfgdodpjmjfaaCodeNum
namespace Go.Proofs.Ytddfgdodpjmjfaa.CodeLaw
open Go.RowKit
set_option linter.unusedVariables false

theorem form_one : ∀ i : Fin 26, (bits .and .i64 (fldS (i.val + 1)) 1 == 1) = ((encR (i.val + 1) 1 0 0).2 == 0) ∧ (bits .and .i64 (fldS (i.val + 1)) 2 == 2) = ((encR (i.val + 1) 0 1 0).2 == 0) ∧ (bits .and .i64 (fldS (i.val + 1)) 4 == 4) = ((encR (i.val + 1) 0 0 1).2 == 0) := by decide +kernel
theorem form_all {a : Int} (ha : 1 ≤ a ∧ a ≤ 26) : (bits .and .i64 (fldS a) 1 == 1) = ((encR a 1 0 0).2 == 0) ∧ (bits .and .i64 (fldS a) 2 == 2) = ((encR a 0 1 0).2 == 0) ∧ (bits .and .i64 (fldS a) 4 == 4) = ((encR a 0 0 1).2 == 0) := by
  obtain ⟨i, rfl⟩ : ∃ i : Nat, a = i + 1 := ⟨(a - 1).toNat, by omega⟩
  exact form_one ⟨i, by omega⟩
theorem four0 (w : World) (T : TypeId) : ∀ i, i < [(0 : Int), 0, 0, 0].length → (w.alloc (.cells #[.int .i64 0, .int .i64 0, .int .i64 0, .int .i64 0] T)).cell? ⟨w.heap.size, i, none⟩ = some (.int .i64 ([(0 : Int), 0, 0, 0].getD i 0)) := by
  intro i hi
  rw [cell_of_row _ _ _ _ _ _ (heap_alloc_new _ _)]
  have : i = 0 ∨ i = 1 ∨ i = 2 ∨ i = 3 := by simp at hi; omega
  rcases this with rfl | rfl | rfl | rfl <;> rfl
theorem same_name {a b : Int} (ha : 1 ≤ a ∧ a ≤ 26) (hb : 1 ≤ b ∧ b ≤ 26) : ((rowS a).1.toList == (rowS b).1.toList) = (a == b) := by
  by_cases h : a = b
  · subst h; simp
  · rw [apart ha hb h]; simp [h]

set_option maxRecDepth 100000 in
set_option maxHeartbeats 4000000 in
theorem codenames_any (a0 b0 : Int) (w : World) : Calls Try.prog 4 #[.int .i64 a0, .int .i64 b0] w fun e w' => e = .returned (.bool true) ∧ Below w.heap.size w w' := by
  obtain ⟨A, hA⟩ : ∃ A : Int, a0 % 26 = A := ⟨_, rfl⟩
  obtain ⟨B, hB⟩ : ∃ B : Int, b0 % 26 = B := ⟨_, rfl⟩
  have hA1 : 0 ≤ A ∧ A < 26 := by omega
  have hB1 : 0 ≤ B ∧ B < 26 := by omega
  obtain ⟨a, ha⟩ : ∃ a : Int, 1 + A = a := ⟨_, rfl⟩
  obtain ⟨b, hb⟩ : ∃ b : Int, 1 + B = b := ⟨_, rfl⟩
  have ka : 1 ≤ a ∧ a ≤ 26 := by omega
  have kb : 1 ≤ b ∧ b ≤ 26 := by omega
  have hsame := same_name ka kb
  obtain ⟨f1, f2, f4⟩ := form_all ka
  have hn := fun w => name_is a w ka
  have hm := fun w => name_is b w kb
  have hu := fun w => number_is a w ka
  have hf := fun w => fields_is a w ka
  have e1 := fun w => enc_is a 1 0 0 w
  have e2 := fun w => enc_is a 0 1 0 w
  have e4 := fun w => enc_is a 0 0 1 w
  generalize (rowS a).1 = s at *
  generalize (rowS b).1 = t at *
  generalize fldS a = f at *
  generalize (encR a 1 0 0).2 = z1 at *
  generalize (encR a 0 1 0).2 = z2 at *
  generalize (encR a 0 0 1).2 = z4 at *
  generalize (encR a 1 0 0).1 = y1 at *
  generalize (encR a 0 1 0).1 = y2 at *
  generalize (encR a 0 0 1).1 = y4 at *
  have HAA := Lib.hid hA
  have HBB := Lib.hid hB
  have Ha := Lib.hid ha
  have Hb := Lib.hid hb
  have HN := Lib.hid hn
  have HM := Lib.hid hm
  have HU := Lib.hid hu
  have HF := Lib.hid hf
  have E1 := Lib.hid e1
  have E2 := Lib.hid e2
  have E4 := Lib.hid e4
  have aa : (a == a) = true := by simp
  clear hA hB ha hb hn hm hu hf e1 e2 e4
  obtain ⟨A0, A1⟩ := hA1
  obtain ⟨B0, B1⟩ := hB1
  go_enter Try.func4, Try.ntmps4
  go_wp2_with fail
  refine (codes_any _).mono ?_
  rintro e w1 ⟨rfl, hb1⟩
  go_wp2_with fail
  refine (within_any a0 26 _ (by decide) (by decide)).mono ?_
  rintro e w2 ⟨rfl, rfl⟩
  rw [HAA.out]
  go_wp2_with fail
  refine (within_any b0 26 _ (by decide) (by decide)).mono ?_
  rintro e w2 ⟨rfl, rfl⟩
  rw [HBB.out]
  go_wp2_with fail
  rw [Ha.out, Hb.out]
  clear A0 A1 B0 B1
  refine (HN.out _).mono ?_
  rintro e w2 ⟨rfl, rfl⟩
  go_wp2_with fail
  refine (HM.out _).mono ?_
  rintro e w2 ⟨rfl, rfl⟩
  go_wp2_with fail
  refine (HU.out _).mono ?_
  rintro e w2 ⟨rfl, rfl⟩
  go_wp2_with fail
  refine (HF.out _).mono ?_
  rintro e w2 ⟨rfl, rfl⟩
  go_wp2_with fail
  refine (E1.out _).mono ?_
  rintro e w2 ⟨rfl, hb2⟩
  have hB2 := hb1.trans (hb2.mono hb1.size)
  clear hb1 hb2
  go_wp2_with fail
  refine (E2.out _).mono ?_
  rintro e w3 ⟨rfl, hb3⟩
  have hB3 := hB2.trans (hb3.mono hB2.size)
  clear hB2 hb3
  go_wp2_with fail
  refine (E4.out _).mono ?_
  rintro e w4 ⟨rfl, hb4⟩
  have HB4 := Lib.hid (hB3.trans (hb4.mono hB3.size))
  clear hB3 hb4
  go_wp2_with fail
  refine (good_any _ _ [0, 0, 0, 0] _ (by simp) (four0 _ _)).mono ?_
  rintro e w5 ⟨rfl, rfl⟩
  rw [show ([(0 : Int), 0, 0, 0].all (· == 0)) = true from rfl]
  go_wp2
  go_ret
  exact ⟨rfl, HB4.out.alloc HB4.out.size _⟩
end Go.Proofs.Ytddfgdodpjmjfaa.CodeLaw
