/- Sets of signals by whole rows: the walks of Hold, Next, Take, sigs. -/
import Derived.Test.YtgdihccmkleimaaSigRow
namespace Go.Proofs.Ytgdihccmkleimaa.SigLaw
open Go.RowKit
set_option linter.unusedVariables false
attribute [local go_sem ↓] load58_eq store58_eq zero58 cells58

def HoldPost (g : G) (m : Nat) (w : World) (e : Ending) (w' : World) : Prop :=
  ∃ en g', e = .returned (.tuple #[.agg (cellsA g'), .int .i64 en]) ∧ Below w.heap.size w w' ∧ ((en = 0 ∧ good g ∧ g' = ⟨g.p, (less m 512 : Nat), g.h⟩) ∨ (en ≠ 0 ∧ ¬ good g))
set_option maxRecDepth 100000 in
set_option maxHeartbeats 1000000 in
theorem hold_is (g : G) (m : Nat) (w : World) (hB : BB g) (hm : m < 65536) (hm0 : m.testBit 0 = false) : Calls Try.prog 35 #[.agg (cellsA g), .int .i64 m] w (HoldPost g m w) := by
  have HC := Lib.hid (check_b g ((w.alloc (.cells (cellsA g) 58)).alloc (.cells (cellsA zeroG) 58)) hB)
  have HT := Lib.hid (two_new w g)
  have hl := (two_new w g).R.load
  have hf : (bits .andNot .i64 (m : Int) 65534 != 0) = false := by have := nat_fit m hm hm0; unfold fitB at this; simpa using this
  have h5 : bits .andNot .i64 (m : Int) 512 = ((less m 512 : Nat) : Int) := i64_andNot m 512 (by omega) (by decide)
  clear hB hm hm0
  go_enter Try.func35, Try.ntmps35
  go_wp2_with fail
  refine HC.out.mono ?_
  rintro e w1 ⟨en, rfl, hb1, hcase⟩
  have HT1 := Lib.hid (HT.out.keep hb1)
  clear hb1 hl HC HT
  rcases hcase with ⟨rfl, hg⟩ | ⟨hen, hg⟩
  · have HG := Lib.hid hg
    obtain ⟨g2, hg2⟩ : ∃ g2 : G, g2 = ⟨g.p, ((less m 512 : Nat) : Int), g.h⟩ := ⟨_, rfl⟩
    have HT2 := Lib.hid (HT1.out.setM ((less m 512 : Nat) : Int))
    rw [← hg2] at HT2
    have HG2 := Lib.hid hg2
    have c1 := HT1.out.R.c1
    have f1 := HT1.out.R.fz 1
    have hl := HT2.out.R.load
    have hz := HT2.out.Z.store g2
    clear hg hg2
    go_wp2
    exact bodyPost_ret (v := .tuple #[.agg (cellsA g2), .int .i64 0]) (by rw [results_cell_tmp rfl]; simp [asAddr, Result.andThen, (HT2.out.store g2).Z.loadVar]) rfl ⟨0, g2, rfl, (HT2.out.store g2).B, .inl ⟨rfl, HG.out, HG2.out⟩⟩
  · have hen' := ne_zero hen
    have hz := fun g' => HT1.out.Z.store g'
    have HE := Lib.hid hen
    have HG := Lib.hid hg
    clear hen hg
    go_wp2
    exact bodyPost_ret (v := .tuple #[.agg (cellsA zeroG), .int .i64 en]) (by rw [results_cell_tmp rfl]; simp [asAddr, Result.andThen, (HT1.out.store zeroG).Z.loadVar]) rfl ⟨en, zeroG, rfl, (HT1.out.store zeroG).B, .inr ⟨HE.out, HG.out⟩⟩

def NextPost (g : G) (w : World) (e : Ending) (w' : World) : Prop :=
  ∃ n en : Int, e = .returned (.tuple #[.int .i64 n, .int .i64 en]) ∧ Below w.heap.size w w' ∧
    ((en ≠ 0 ∧ ¬ good g) ∨ ∃ P M, Right g P M ∧ ((en = 0 ∧ ∃ k : Nat, n = k ∧ 1 ≤ k ∧ k ≤ 15 ∧ P.testBit k = true ∧ (k = 9 ∨ M.testBit k = false) ∧ (P.testBit 9 = true → k = 9)) ∨ (en = 4 ∧ P.testBit 9 = false ∧ ∀ k, 1 ≤ k → k ≤ 15 → P.testBit k = true → M.testBit k = true)))
set_option maxRecDepth 100000 in
set_option maxHeartbeats 1000000 in
theorem next_is (g : G) (w : World) (hB : BB g) : Calls Try.prog 36 #[.agg (cellsA g)] w (NextPost g w) := by
  have HC := Lib.hid (check_b g (w.alloc (.cells (cellsA g) 58)) hB)
  have HN := Lib.hid (row_new w g)
  have HB1 := Lib.hid (Go.Joins.below_alloc1 w (.cells (cellsA g) 58))
  have hl := (row_new w g).load
  clear hB
  go_enter Try.func36, Try.ntmps36
  go_wp2_with fail
  refine HC.out.mono ?_
  rintro e w1 ⟨en, rfl, hb1, hcase⟩
  have HN1 := Lib.hid (HN.out.keep hb1)
  have HW := Lib.hid (HB1.out.trans (hb1.mono HB1.out.size))
  clear hb1 hl HC HN HB1
  rcases hcase with ⟨rfl, P, M, hr⟩ | ⟨hen, hg⟩
  · have HR := Lib.hid hr
    have c0 := HN1.out.c0
    have c1 := HN1.out.c1
    rw [hr.p] at c0
    rw [hr.m] at c1
    have h9 : (bits .and .i64 ((P : Int) / 512) 1 == 1) = P.testBit 9 := bit_eq P 9 hr.pl
    cases h : P.testBit 9
    · have H9 := Lib.hid h
      rw [h] at h9
      have hx : bits .andNot .i64 (P : Int) (M : Int) = ((less P M : Nat) : Int) := i64_andNot P M (by have := hr.pl; omega) (by have := hr.ml; omega)
      have HX := Lib.hid (less_lt P M hr.pl)
      have hbits : Hid (∀ k, (less P M).testBit k = (P.testBit k && !M.testBit k)) := Lib.hid (fun k => less_bit P M k)
      generalize less P M = x at *
      clear hr h
      go_wp2_with fail
      go_loop [6] (fun i => ∃ k : Nat, 1 ≤ k ∧ k ≤ 16 ∧ i = .int .i64 k ∧ Hid (∀ j, 1 ≤ j → j < k → x.testBit j = false)) (fun i => 16 - (intOf i).toNat)
      case atStart => exact ⟨1, by omega, by omega, rfl, fun j h1 h2 => absurd h2 (by omega)⟩
      case round =>
        obtain ⟨k, k1, k2, rfl, HK⟩ := hrel
        by_cases hlt : k ≤ 15
        · have hb := bit_eq x k HX.out
          have hki : (k : Int) ≤ 15 := by omega
          have hk64 : (k : Int) < 64 := by omega
          have hk0 : ¬ ((k : Int) < 0) := by omega
          have HKK := Lib.hid (And.intro k1 hlt)
          clear hlt
          cases hq : x.testBit k
          · have HQ := Lib.hid hq
            rw [hq] at hb
            clear hq
            go_wp2
            go_round
            case rel =>
              refine ⟨k + 1, by omega, by omega, rfl, fun j h1 h2 => ?_⟩
              rcases Nat.lt_succ_iff_lt_or_eq.1 h2 with q | rfl
              · exact HK.out j h1 q
              · exact HQ.out
            case measure => simp [intOf]; omega
          · have HQ := Lib.hid hq
            rw [hq] at hb
            clear hq
            go_wp2
            go_ret2
            have hbt := hbits.out k
            rw [HQ.out] at hbt
            have hP : P.testBit k = true := by revert hbt; cases P.testBit k <;> simp
            have hM : M.testBit k = false := by revert hbt; cases M.testBit k <;> simp
            exact ⟨k, 0, rfl, HW.out, .inr ⟨P, M, HR.out, .inl ⟨rfl, k, rfl, HKK.out.1, HKK.out.2, hP, .inr hM, fun h => by rw [H9.out] at h; cases h⟩⟩⟩
        · obtain rfl : k = 16 := by omega
          go_wp2
          go_ret2
          refine ⟨0, 4, rfl, HW.out, .inr ⟨P, M, HR.out, .inr ⟨rfl, H9.out, fun k h1 h2 h3 => ?_⟩⟩⟩
          have hbt := hbits.out k
          rw [HK.out k h1 (by omega), h3] at hbt
          revert hbt; cases M.testBit k <;> simp
    · have H9 := Lib.hid h
      rw [h] at h9
      clear hr h
      go_wp2
      go_ret2
      exact ⟨9, 0, rfl, HW.out, .inr ⟨P, M, HR.out, .inl ⟨rfl, 9, rfl, by decide, by decide, H9.out, .inl rfl, fun _ => rfl⟩⟩⟩
  · have hen' := ne_zero hen
    have HE := Lib.hid hen
    have HG := Lib.hid hg
    clear hen hg
    go_wp2
    go_ret2
    exact ⟨0, en, rfl, HW.out, .inl ⟨HE.out, HG.out⟩⟩
end Go.Proofs.Ytgdihccmkleimaa.SigLaw
