/- The walk of ringkeep5.TurnBack. -/
import Derived.Test.YtopadiofanaaiaaBackWalk
import Derived.Test.YtopadiofanaaiaaTurnAdds
namespace Go.Proofs.Ytopadiofanaaiaa.TurnLaw
open Go.RowKit
set_option linter.unusedVariables false

theorem four0 (w : World) (T : TypeId) : ∀ i, i < [(0 : Int), 0, 0, 0].length → (w.alloc (.cells #[.int .i64 0, .int .i64 0, .int .i64 0, .int .i64 0] T)).cell? ⟨w.heap.size, i, none⟩ = some (.int .i64 ([(0 : Int), 0, 0, 0].getD i 0)) := by
  intro i hi
  rw [cell_of_row _ _ _ _ _ _ (heap_alloc_new _ _)]
  have : i = 0 ∨ i = 1 ∨ i = 2 ∨ i = 3 := by simp at hi; omega
  rcases this with rfl | rfl | rfl | rfl <;> rfl
theorem of_order {w : World} {v : Value} {l : List Nat} {z : Nat} (hs : small l) (h12 : l.sum ≤ 12) (hz : z < countR l) (hm : NatS w v (atR l z)) : Calls Try.prog 23 #[v] w fun e w' => e = .returned (.tuple #[.int .i64 z, .int .i64 0]) ∧ Below w.heap.size w w' := by
  have hc : cnt4 (atR l z) = pad4 l := cnt4_at hs hz (by omega)
  have ho : ofR (cnt4 (atR l z)) (atR l z) = z := by rw [hc]; exact of_at 13 l z hs hz (by omega)
  have hlen : (atR l z).length = l.sum := at_length hs h12 hz 13 (by omega)
  have hcs := count_small l h12
  have h := of_is (o := atR l z) (by rw [hlen]; exact h12) (at_lt hs) (by rw [ho]; omega) hm
  rw [ho] at h
  exact h
set_option maxRecDepth 100000 in
set_option maxHeartbeats 1000000 in
theorem turnback_any {w : World} {v : Value} {xs : List Int} (i0 k0 : Int) (hm : At (Value.int .i64) 0 w v xs) : Calls Try.prog 7 #[v, .int .i64 i0, .int .i64 k0] w fun e w' => e = .returned (.bool true) ∧ Below w.heap.size w w' := by
  have hlo := fun w' (hb : Below w.heap.size w w') => lens_of (w := w') (hm.keep hb)
  have HLO := Lib.hid hlo
  clear hlo hm
  go_enter Try.func7, Try.ntmps7
  go_wp2_with fail
  refine (turns_any _).mono ?_
  rintro e w1 ⟨rfl, hb1⟩
  have HB1 := Lib.hid hb1
  go_wp2_with fail
  refine (HLO.out _ hb1).mono ?_
  rintro e w2 ⟨v7, l, rfl, hrow, hb2, hg, hx⟩
  have HB2 := Lib.hid (HB1.out.trans (hb2.mono HB1.out.size))
  have HG := Lib.hid hg
  have HS := Lib.hid (show small l from ⟨hg.1, hx⟩)
  have hns := natS_of hrow
  have hpos := count_pos ⟨hg.1, hx⟩
  have hcnt := Count_is hg hns
  obtain ⟨C, hC⟩ : ∃ C, C = countR l := ⟨_, rfl⟩
  rw [← hC] at hcnt hpos
  have HCE := Lib.hid hC
  have HCNT := Lib.hid hcnt
  have HNS := Lib.hid hns
  have hc1 : (1 : Int) ≤ C := by omega
  have HC2 := Lib.hid hpos.2
  clear hb1 hb2 hg hx hrow hns hpos hcnt hC
  go_wp2_with fail
  refine HCNT.out.mono ?_
  rintro e w3 ⟨rfl, rfl⟩
  go_wp2_with fail
  refine (within_any i0 C _ hc1 (by have := HC2.out; omega)).mono ?_
  rintro e w3 ⟨rfl, rfl⟩
  obtain ⟨i, hi⟩ : ∃ z : Nat, i0 % C = z := ⟨(i0 % C).toNat, by have := Int.emod_nonneg i0 (show (C : Int) ≠ 0 by omega); omega⟩
  have hiC : i < C := by have := Int.emod_lt_of_pos i0 (show (0 : Int) < C by omega); omega
  rw [hi]
  clear hi
  go_wp2_with fail
  refine (within_any k0 C _ hc1 (by have := HC2.out; omega)).mono ?_
  rintro e w3 ⟨rfl, rfl⟩
  obtain ⟨k, hk⟩ : ∃ z : Nat, k0 % C = z := ⟨(k0 % C).toNat, by have := Int.emod_nonneg k0 (show (C : Int) ≠ 0 by omega); omega⟩
  have hkC : k < C := by have := Int.emod_lt_of_pos k0 (show (0 : Int) < C by omega); omega
  rw [hk]
  clear hk
  have HI := Lib.hid (show i < countR l by rw [← HCE.out]; exact hiC)
  have HK := Lib.hid (show k < countR l by rw [← HCE.out]; exact hkC)
  clear hiC hkC
  go_wp2_with fail
  refine (at_is (k0 := i) HG.out HI.out HNS.out).mono ?_
  rintro e w3 ⟨v10, rfl, ho1, hb3⟩
  have HB3 := Lib.hid (HB2.out.trans (hb3.mono HB2.out.size))
  have hns3 := HNS.out.keep hb3
  have HO1 := Lib.hid ho1
  clear ho1 hb3
  go_wp2_with fail
  refine (at_is (k0 := k) HG.out HK.out hns3).mono ?_
  rintro e w4 ⟨v12, rfl, ho2, hb4⟩
  have HB4 := Lib.hid (HB3.out.trans (hb4.mono HB3.out.size))
  have HO14 := Lib.hid (HO1.out.keep hb4)
  have HO2 := Lib.hid ho2
  clear ho2 hb4 hns3
  go_wp2_with fail
  refine (of_order HS.out HG.out.2 HI.out HO14.out).mono ?_
  rintro e w5 ⟨rfl, hb5⟩
  have HB5 := Lib.hid (HB4.out.trans (hb5.mono HB4.out.size))
  have HO15 := Lib.hid (HO14.out.keep hb5)
  have HO25 := Lib.hid (HO2.out.keep hb5)
  clear hb5
  go_wp2_with fail
  refine (of_order HS.out HG.out.2 HK.out HO25.out).mono ?_
  rintro e w6 ⟨rfl, hb6⟩
  have hb7 := (HB5.out.trans (hb6.mono HB5.out.size)).alloc (by have := (HB5.out.trans (hb6.mono HB5.out.size)).size; exact this) (.cells #[.int .i64 0, .int .i64 0, .int .i64 0, .int .i64 0] 26)
  have h17 := (HO15.out.keep hb6).keep (Go.Joins.below_alloc1 w6 (.cells #[.int .i64 0, .int .i64 0, .int .i64 0, .int .i64 0] 26))
  have h27 := (HO25.out.keep hb6).keep (Go.Joins.below_alloc1 w6 (.cells #[.int .i64 0, .int .i64 0, .int .i64 0, .int .i64 0] 26))
  have HCMP := Lib.hid (compare_is h17 h27)
  have HB7 := Lib.hid hb7
  have hlaw := cmp_at 13 l i k HS.out HI.out HK.out (by have := HG.out.2; omega)
  have HLAW : Hid (cmpL (atR l i) (atR l k) < 0 ↔ i < k) := hlaw
  clear hb6 hb7 h17 h27 hlaw
  obtain ⟨R, hR⟩ : ∃ R, R = cmpL (atR l i) (atR l k) := ⟨_, rfl⟩
  rw [← hR] at HCMP HLAW
  clear hR
  have hii : ((i : Int) == (i : Int)) = true := by simp
  have hkk : ((k : Int) == (k : Int)) = true := by simp
  go_wp2_with fail
  refine (good_any _ _ [0, 0, 0, 0] _ (by simp) (four0 _ _)).mono ?_
  rintro e w7 ⟨rfl, rfl⟩
  rw [show ([(0 : Int), 0, 0, 0].all (· == 0)) = true from rfl]
  generalize w6.alloc (.cells #[.int .i64 0, .int .i64 0, .int .i64 0, .int .i64 0] 26) = w7 at *
  go_wp2_with fail
  refine HCMP.out.mono ?_
  rintro e w8 ⟨rfl, rfl⟩
  have HD : Hid ((decide (i < k) == decide (R < 0)) = true) := by
    have := HLAW.out
    show _ = _
    by_cases h : i < k
    · have h1 : R < 0 := this.2 h
      simp [h1, h]
    · have h1 : ¬ R < 0 := fun e => h (this.1 e)
      simp [h1, h]
  go_wp2
  go_ret
  exact ⟨ret_bool HD.out, HB7.out⟩
end Go.Proofs.Ytopadiofanaaiaa.TurnLaw
