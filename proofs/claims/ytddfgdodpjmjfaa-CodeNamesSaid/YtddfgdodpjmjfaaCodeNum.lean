/- The walks of code.Name, code.Number, code.Fields. -/
import Derived.Test.YtddfgdodpjmjfaaCodeBack
namespace Go.Proofs.Ytddfgdodpjmjfaa.CodeLaw
open Go.RowKit
set_option linter.unusedVariables false

theorem name_is (op : Int) (w : World) (h : 1 ≤ op ∧ op ≤ 26) : Calls Try.prog 19 #[.int .i64 op] w fun e w' => e = .returned (.tuple #[.string (rowS op).1, .int .i64 0]) ∧ w = w' := by
  have hq := name_some h
  have hr := row_is op w
  obtain ⟨s, hs⟩ : ∃ s, s = (rowS op).1 := ⟨_, rfl⟩
  obtain ⟨f, hf⟩ : ∃ f, f = (rowS op).2 := ⟨_, rfl⟩
  rw [← hs] at hq hr ⊢
  rw [← hf] at hr
  have HR := Lib.hid hr
  clear hr hs hf h
  go_enter Try.func19, Try.ntmps19
  go_wp2_with fail
  refine HR.out.mono ?_
  rintro e w1 ⟨rfl, rfl⟩
  go_wp2
  go_ret2
  exact ⟨rfl, rfl⟩
theorem fields_is (op : Int) (w : World) (h : 1 ≤ op ∧ op ≤ 26) : Calls Try.prog 21 #[.int .i64 op] w fun e w' => e = .returned (.tuple #[.int .i64 (fldS op), .int .i64 0]) ∧ w = w' := by
  have hq := name_some h
  have hr := row_is op w
  unfold fldS
  obtain ⟨s, hs⟩ : ∃ s, s = (rowS op).1 := ⟨_, rfl⟩
  obtain ⟨f, hf⟩ : ∃ f, f = (rowS op).2 := ⟨_, rfl⟩
  rw [← hs] at hq hr
  rw [← hf] at hr ⊢
  have HR := Lib.hid hr
  clear hr hs hf h
  go_enter Try.func21, Try.ntmps21
  go_wp2_with fail
  refine HR.out.mono ?_
  rintro e w1 ⟨rfl, rfl⟩
  go_wp2
  go_ret2
  exact ⟨rfl, rfl⟩
theorem names_apart : ∀ i j : Fin 26, i ≠ j → ((rowS (i.val + 1)).1.toList == (rowS (j.val + 1)).1.toList) = false := by decide +kernel
theorem apart {a b : Int} (ha : 1 ≤ a ∧ a ≤ 26) (hb : 1 ≤ b ∧ b ≤ 26) (h : a ≠ b) : ((rowS a).1.toList == (rowS b).1.toList) = false := by
  obtain ⟨i, rfl⟩ : ∃ i : Nat, a = i + 1 := ⟨(a - 1).toNat, by omega⟩
  obtain ⟨j, rfl⟩ : ∃ j : Nat, b = j + 1 := ⟨(b - 1).toNat, by omega⟩
  exact names_apart ⟨i, by omega⟩ ⟨j, by omega⟩ (fun e => h (by have := congrArg Fin.val e; simp at this; omega))

set_option maxHeartbeats 400000 in
theorem number_is (a : Int) (w : World) (h : 1 ≤ a ∧ a ≤ 26) : Calls Try.prog 20 #[.string (rowS a).1] w fun e w' => e = .returned (.tuple #[.int .i64 a, .int .i64 0]) ∧ w = w' := by
  have hap := fun (b : Int) (hb : 1 ≤ b ∧ b ≤ 26) (hn : b ≠ a) => apart hb h hn
  have hrow := fun (b : Int) (w : World) => row_is b w
  generalize rowS = R at *
  obtain ⟨t2, ht2⟩ : ∃ t, t = (R a).1 := ⟨_, rfl⟩
  rw [← ht2] at hap ⊢
  have HT := Lib.hid ht2
  have HAP := Lib.hid hap
  have HR := Lib.hid hrow
  obtain ⟨h1, h2⟩ := h
  clear hap hrow ht2
  go_enter Try.func20, Try.ntmps20
  go_wp2
  go_loop [4] (fun i => ∃ b : Int, 1 ≤ b ∧ b ≤ a ∧ i = .int .i64 b) (fun i => 26 - (intOf i).toNat)
  case atStart => exact ⟨1, by omega, by omega, rfl⟩
  case round =>
    obtain ⟨b, hb, hba, rfl⟩ := hrel
    have hle : b ≤ 26 := by omega
    by_cases hka : b = a
    · subst hka
      go_wp2_with fail
      refine (HR.out _ _).mono ?_
      rintro e w1 ⟨rfl, rfl⟩
      rw [← HT.out]
      generalize (R b).2 = f
      go_wp2
      go_ret2
      exact ⟨rfl, rfl⟩
    · have hne := HAP.out b (by omega) hka
      have hlt : b < a := by omega
      clear hka hle
      go_wp2_with fail
      refine (HR.out _ _).mono ?_
      rintro e w1 ⟨rfl, rfl⟩
      generalize (R b).2 = f at *
      generalize (R b).1 = t at *
      go_wp2
      go_round
      case rel => exact ⟨b + 1, by omega, by omega, by go_num⟩
      case measure => simp [intOf]; omega
end Go.Proofs.Ytddfgdodpjmjfaa.CodeLaw
