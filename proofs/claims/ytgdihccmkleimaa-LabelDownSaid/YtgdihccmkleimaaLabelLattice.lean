/- The walk of ringkeep5.LabelLattice. -/
import Derived.Test.YtgdihccmkleimaaLabelWalk
namespace Go.Proofs.Ytgdihccmkleimaa.LabelLaw
open Go.RowKit
set_option linter.unusedVariables false

theorem labels_any (w : World) : Calls Try.prog 23 #[] w fun e w' => e = .returned (.bool true) ∧ Below w.heap.size w w' := by
  have h1 : joinR ⟨1, 1⟩ ⟨0, 2⟩ = ⟨1, 3⟩ := by
    have e1 : (joinR ⟨1, 1⟩ ⟨0, 2⟩).l = 1 := by decide
    have e2 : (joinR ⟨1, 1⟩ ⟨0, 2⟩).k = 3 := by decide
    cases h : joinR ⟨1, 1⟩ ⟨0, 2⟩
    rw [h] at e1 e2
    simp only at e1 e2
    rw [e1, e2]
  have h2 : flowsR ⟨1, 0⟩ ⟨0, 0⟩ = false := by decide
  have h3 : bothE ⟨1, 1⟩ ⟨0, 2⟩ = 0 := by decide
  have h4 : bothE ⟨1, 0⟩ ⟨0, 0⟩ = 0 := by decide
  have H1 := Lib.hid h1
  have H2 := Lib.hid h2
  have H3 := Lib.hid h3
  have H4 := Lib.hid h4
  clear h1 h2 h3 h4
  go_enter Try.func23, Try.ntmps23
  go_wp2_with fail
  refine (join_any ⟨1, 1⟩ ⟨0, 2⟩ _).mono ?_
  rintro e w1 ⟨rfl, hb1⟩
  rw [H1.out, H3.out]
  go_wp2_with fail
  refine (flows_any ⟨1, 0⟩ ⟨0, 0⟩ _).mono ?_
  rintro e w2 ⟨rfl, hb2⟩
  rw [H2.out, H4.out]
  go_wp2_with fail
  refine (good_any _ 2 [0, 0] _ (by simp) ?_).mono ?_
  · intro i hi
    match i, hi with
    | 0, _ => simp
    | 1, _ => simp
  rintro e w3 ⟨rfl, rfl⟩
  have HJ := ((has_new w1 [.int .i64 1, .int .i64 3] 43).keep hb2).alloc (.cells #[.int .i64 0, .int .i64 0] 23)
  have c0 := HJ.c0
  have c1 := HJ.c1
  go_wp2
  go_ret
  exact ⟨rfl, ((hb1.alloc hb1.size _).trans (hb2.mono (by have := hb1.size; simp; omega))).alloc (by have := hb1.size; have := hb2.size; simp at this; omega) _⟩

theorem bothE_ok {a b : Lab} (ha : okL a = true) (hb : okL b = true) : bothE a b = 0 := if_pos ⟨ha, hb⟩

set_option maxRecDepth 100000 in
set_option maxHeartbeats 4000000 in
theorem lattice_ok (a b c : Lab) (w : World) (ha : okL a = true) (hb : okL b = true) (hc : okL c = true) :
    Calls Try.prog 6 #[.agg #[.int .i64 a.l, .int .i64 a.k], .agg #[.int .i64 b.l, .int .i64 b.k], .agg #[.int .i64 c.l, .int .i64 c.k]] w fun e w' => e = .returned (.bool true) ∧ Below w.heap.size w w' := by
  have L := lattice ha hb hc
  have HOJ := Lib.hid (ok_join ha hb)
  have HOM := Lib.hid (ok_meet ha hb)
  have HOA := Lib.hid ha
  have HOB := Lib.hid hb
  have HOC := Lib.hid hc
  clear ha hb hc
  obtain ⟨j, hj⟩ : ∃ j, j = joinL a b := ⟨_, rfl⟩
  obtain ⟨m, hm⟩ : ∃ m, m = meetL a b := ⟨_, rfl⟩
  rw [← hj, ← hm] at L
  rw [← hj] at HOJ
  rw [← hm] at HOM
  have HJ0 := Lib.hid hj
  have HM0 := Lib.hid hm
  clear hj hm
  obtain ⟨ab, hab⟩ : ∃ q, q = flowsB a b := ⟨_, rfl⟩
  obtain ⟨bc, hbc⟩ : ∃ q, q = flowsB b c := ⟨_, rfl⟩
  obtain ⟨ac, hac⟩ : ∃ q, q = flowsB a c := ⟨_, rfl⟩
  obtain ⟨ba, hba⟩ : ∃ q, q = flowsB b a := ⟨_, rfl⟩
  obtain ⟨jc, hjc⟩ : ∃ q, q = flowsB j c := ⟨_, rfl⟩
  obtain ⟨cm, hcm⟩ : ∃ q, q = flowsB c m := ⟨_, rfl⟩
  obtain ⟨ca, hca⟩ : ∃ q, q = flowsB c a := ⟨_, rfl⟩
  obtain ⟨cb, hcb⟩ : ∃ q, q = flowsB c b := ⟨_, rfl⟩
  rw [← hab, ← hbc, ← hac, ← hba, ← hjc, ← hcm, ← hca, ← hcb] at L
  have Fab := Lib.hid hab
  have Fbc := Lib.hid hbc
  have Fac := Lib.hid hac
  have Fba := Lib.hid hba
  have Fjc := Lib.hid hjc
  have Fcm := Lib.hid hcm
  have Fca := Lib.hid hca
  have Fcb := Lib.hid hcb
  clear hab hbc hac hba hjc hcm hca hcb
  have HL := Lib.hid L
  clear L
  go_enter Try.func6, Try.ntmps6
  go_wp2_with fail
  refine (labels_any _).mono ?_
  rintro e w1 ⟨rfl, hb1⟩
  have HA := (((has_new w [.int .i64 a.l, .int .i64 a.k] 43).alloc _).alloc _).keep hb1
  have HB := ((has_new (w.alloc (.cells #[.int .i64 a.l, .int .i64 a.k] 43)) [.int .i64 b.l, .int .i64 b.k] 43).alloc _).keep hb1
  have HC := (has_new ((w.alloc (.cells #[.int .i64 a.l, .int .i64 a.k] 43)).alloc (.cells #[.int .i64 b.l, .int .i64 b.k] 43)) [.int .i64 c.l, .int .i64 c.k] 43).keep hb1
  simp only [World.size_alloc] at HB HC
  have HW := ((((Below.refl _ _).alloc (Nat.le_refl _) _).alloc (by simp) _).alloc (by simp; omega) _).trans (hb1.mono (B' := w.heap.size) (by simp; omega))
  clear hb1
  have HA0 := HA.c0
  have HA1 := HA.c1
  have HB0 := HB.c0
  have HB1 := HB.c1
  have HC0 := HC.c0
  have HC1 := HC.c1
  go_wp2_with fail
  clear HA0 HA1 HB0 HB1 HC0 HC1
  refine (flows_ok a b _ HOA.out HOB.out).mono ?_
  rintro e w2 ⟨rfl, hb2⟩
  rw [← Fab.out]
  replace HA := HA.keep hb2
  replace HB := HB.keep hb2
  replace HC := HC.keep hb2
  replace HW := HW.trans (hb2.mono (by have := HW.size; first | exact this | (simp; omega)))
  clear hb2
  have HA0 := HA.c0
  have HA1 := HA.c1
  have HB0 := HB.c0
  have HB1 := HB.c1
  have HC0 := HC.c0
  have HC1 := HC.c1
  go_wp2_with fail
  clear HA0 HA1 HB0 HB1 HC0 HC1
  refine (flows_ok b c _ HOB.out HOC.out).mono ?_
  rintro e w3 ⟨rfl, hb3⟩
  rw [← Fbc.out]
  replace HA := HA.keep hb3
  replace HB := HB.keep hb3
  replace HC := HC.keep hb3
  replace HW := HW.trans (hb3.mono (by have := HW.size; first | exact this | (simp; omega)))
  clear hb3
  have HA0 := HA.c0
  have HA1 := HA.c1
  have HB0 := HB.c0
  have HB1 := HB.c1
  have HC0 := HC.c0
  have HC1 := HC.c1
  go_wp2_with fail
  clear HA0 HA1 HB0 HB1 HC0 HC1
  refine (flows_ok a c _ HOA.out HOC.out).mono ?_
  rintro e w4 ⟨rfl, hb4⟩
  rw [← Fac.out]
  replace HA := HA.keep hb4
  replace HB := HB.keep hb4
  replace HC := HC.keep hb4
  replace HW := HW.trans (hb4.mono (by have := HW.size; first | exact this | (simp; omega)))
  clear hb4
  have HA0 := HA.c0
  have HA1 := HA.c1
  have HB0 := HB.c0
  have HB1 := HB.c1
  have HC0 := HC.c0
  have HC1 := HC.c1
  go_wp2_with fail
  clear HA0 HA1 HB0 HB1 HC0 HC1
  refine (flows_ok b a _ HOB.out HOA.out).mono ?_
  rintro e w5 ⟨rfl, hb5⟩
  rw [← Fba.out]
  replace HA := HA.keep hb5
  replace HB := HB.keep hb5
  replace HC := HC.keep hb5
  replace HW := HW.trans (hb5.mono (by have := HW.size; first | exact this | (simp; omega)))
  clear hb5
  have HA0 := HA.c0
  have HA1 := HA.c1
  have HB0 := HB.c0
  have HB1 := HB.c1
  have HC0 := HC.c0
  have HC1 := HC.c1
  go_wp2_with fail
  clear HA0 HA1 HB0 HB1 HC0 HC1
  refine (join_ok a b _ HOA.out HOB.out).mono ?_
  rintro e w6 ⟨rfl, hb6⟩
  rw [← HJ0.out]
  replace HA := HA.keep hb6
  replace HB := HB.keep hb6
  replace HC := HC.keep hb6
  replace HW := HW.trans (hb6.mono (by have := HW.size; first | exact this | (simp; omega)))
  clear hb6
  have HJ := has_new w6 [.int .i64 j.l, .int .i64 j.k] 43
  have HA0 := HA.a0
  have HA1 := HA.a1
  have HB0 := HB.a0
  have HB1 := HB.a1
  have HC0 := HC.a0
  have HC1 := HC.a1
  go_wp2_with fail
  clear HA0 HA1 HB0 HB1 HC0 HC1
  refine (meet_ok a b _ HOA.out HOB.out).mono ?_
  rintro e w7 ⟨rfl, hb7⟩
  rw [← HM0.out]
  replace HA := (HA.alloc _).keep hb7
  replace HB := (HB.alloc _).keep hb7
  replace HC := (HC.alloc _).keep hb7
  replace HJ := HJ.keep hb7
  replace HW := (HW.alloc HW.size _).trans (hb7.mono (by have := HW.size; simp; omega))
  clear hb7
  have HM := has_new w7 [.int .i64 m.l, .int .i64 m.k] 43
  have HA0 := HA.c0
  have HA1 := HA.c1
  have HB0 := HB.c0
  have HB1 := HB.c1
  have HC0 := HC.c0
  have HC1 := HC.c1
  have HJ0 := HJ.c0
  have HJ1 := HJ.c1
  go_wp2_with fail
  clear HA0 HA1 HB0 HB1 HC0 HC1 HJ0 HJ1
  refine (good_any _ 6 [0, 0, 0, 0, 0, 0] _ (by simp) ?_).mono ?_
  · intro i hi
    match i, hi with
    | 0, _ => simp
    | 1, _ => simp
    | 2, _ => simp
    | 3, _ => simp
    | 4, _ => simp
    | 5, _ => simp
  rintro e w8 ⟨rfl, rfl⟩
  replace HA := (HA.alloc (.cells #[.int .i64 m.l, .int .i64 m.k] 43)).alloc (.cells #[.int .i64 0, .int .i64 0, .int .i64 0, .int .i64 0, .int .i64 0, .int .i64 0] 23)
  replace HB := (HB.alloc (.cells #[.int .i64 m.l, .int .i64 m.k] 43)).alloc (.cells #[.int .i64 0, .int .i64 0, .int .i64 0, .int .i64 0, .int .i64 0, .int .i64 0] 23)
  replace HC := (HC.alloc (.cells #[.int .i64 m.l, .int .i64 m.k] 43)).alloc (.cells #[.int .i64 0, .int .i64 0, .int .i64 0, .int .i64 0, .int .i64 0, .int .i64 0] 23)
  replace HJ := (HJ.alloc (.cells #[.int .i64 m.l, .int .i64 m.k] 43)).alloc (.cells #[.int .i64 0, .int .i64 0, .int .i64 0, .int .i64 0, .int .i64 0, .int .i64 0] 23)
  replace HM := HM.alloc (.cells #[.int .i64 0, .int .i64 0, .int .i64 0, .int .i64 0, .int .i64 0, .int .i64 0] 23)
  replace HW := (HW.alloc HW.size (.cells #[.int .i64 m.l, .int .i64 m.k] 43)).alloc (by have := HW.size; simp; omega) (.cells #[.int .i64 0, .int .i64 0, .int .i64 0, .int .i64 0, .int .i64 0, .int .i64 0] 23)
  have HA0 := HA.c0
  have HA1 := HA.c1
  have HB0 := HB.c0
  have HB1 := HB.c1
  have HC0 := HC.c0
  have HC1 := HC.c1
  have HJ0 := HJ.c0
  have HJ1 := HJ.c1
  have HM0 := HM.c0
  have HM1 := HM.c1
  go_wp2_with fail
  clear HA0 HA1 HB0 HB1 HC0 HC1 HJ0 HJ1 HM0 HM1
  refine (flows_ok j c _ HOJ.out HOC.out).mono ?_
  rintro e w9 ⟨rfl, hb9⟩
  rw [← Fjc.out]
  replace HA := HA.keep hb9
  replace HB := HB.keep hb9
  replace HC := HC.keep hb9
  replace HJ := HJ.keep hb9
  replace HM := HM.keep hb9
  replace HW := HW.trans (hb9.mono (by have := HW.size; first | exact this | (simp; omega)))
  clear hb9
  have HA0 := HA.c0
  have HA1 := HA.c1
  have HB0 := HB.c0
  have HB1 := HB.c1
  have HC0 := HC.c0
  have HC1 := HC.c1
  have HJ0 := HJ.c0
  have HJ1 := HJ.c1
  have HM0 := HM.c0
  have HM1 := HM.c1
  go_wp2_with fail
  clear HA0 HA1 HB0 HB1 HC0 HC1 HJ0 HJ1 HM0 HM1
  refine (flows_ok c m _ HOC.out HOM.out).mono ?_
  rintro e w10 ⟨rfl, hb10⟩
  rw [← Fcm.out]
  replace HA := HA.keep hb10
  replace HB := HB.keep hb10
  replace HC := HC.keep hb10
  replace HJ := HJ.keep hb10
  replace HM := HM.keep hb10
  replace HW := HW.trans (hb10.mono (by have := HW.size; first | exact this | (simp; omega)))
  clear hb10
  have HA0 := HA.c0
  have HA1 := HA.c1
  have HB0 := HB.c0
  have HB1 := HB.c1
  have HC0 := HC.c0
  have HC1 := HC.c1
  have HJ0 := HJ.c0
  have HJ1 := HJ.c1
  have HM0 := HM.c0
  have HM1 := HM.c1
  go_wp2_with fail
  clear HA0 HA1 HB0 HB1 HC0 HC1 HJ0 HJ1 HM0 HM1
  refine (flows_ok c a _ HOC.out HOA.out).mono ?_
  rintro e w11 ⟨rfl, hb11⟩
  rw [← Fca.out]
  replace HA := HA.keep hb11
  replace HB := HB.keep hb11
  replace HC := HC.keep hb11
  replace HJ := HJ.keep hb11
  replace HM := HM.keep hb11
  replace HW := HW.trans (hb11.mono (by have := HW.size; first | exact this | (simp; omega)))
  clear hb11
  have HA0 := HA.c0
  have HA1 := HA.c1
  have HB0 := HB.c0
  have HB1 := HB.c1
  have HC0 := HC.c0
  have HC1 := HC.c1
  have HJ0 := HJ.c0
  have HJ1 := HJ.c1
  have HM0 := HM.c0
  have HM1 := HM.c1
  go_wp2_with fail
  clear HA0 HA1 HB0 HB1 HC0 HC1 HJ0 HJ1 HM0 HM1
  refine (flows_ok c b _ HOC.out HOB.out).mono ?_
  rintro e w12 ⟨rfl, hb12⟩
  rw [← Fcb.out]
  replace HA := HA.keep hb12
  replace HB := HB.keep hb12
  replace HC := HC.keep hb12
  replace HJ := HJ.keep hb12
  replace HM := HM.keep hb12
  replace HW := HW.trans (hb12.mono (by have := HW.size; first | exact this | (simp; omega)))
  clear hb12
  have HA0 := HA.c0
  have HA1 := HA.c1
  have HB0 := HB.c0
  have HB1 := HB.c1
  have HC0 := HC.c0
  have HC1 := HC.c1
  have HJ0 := HJ.c0
  have HJ1 := HJ.c1
  have HM0 := HM.c0
  have HM1 := HM.c1
  go_wp2_with fail
  clear HA0 HA1 HB0 HB1 HC0 HC1 HJ0 HJ1 HM0 HM1
  refine (good_any _ 4 [0, 0, 0, 0] _ (by simp) ?_).mono ?_
  · intro i hi
    match i, hi with
    | 0, _ => simp
    | 1, _ => simp
    | 2, _ => simp
    | 3, _ => simp
  rintro e w13 ⟨rfl, rfl⟩
  replace HA := HA.alloc (.cells #[.int .i64 0, .int .i64 0, .int .i64 0, .int .i64 0] 23)
  replace HB := HB.alloc (.cells #[.int .i64 0, .int .i64 0, .int .i64 0, .int .i64 0] 23)
  replace HW := HW.alloc HW.size (.cells #[.int .i64 0, .int .i64 0, .int .i64 0, .int .i64 0] 23)
  clear HC HJ HM Fab Fbc Fac Fba Fjc Fcm Fca Fcb HOA HOB HOC HOJ HOM HJ0 HM0
  have HA0 := HA.c0
  have HA1 := HA.c1
  have HB0 := HB.c0
  have HB1 := HB.c1
  obtain ⟨l1, l2, l3, l4⟩ := HL.out
  clear HL
  have H1 := Lib.hid l1
  have H2 := Lib.hid l2
  have H3 := Lib.hid l3
  have H4 := Lib.hid l4
  clear l1 l2 l3 l4
  cases ab
  all_goals
    go_wp2
  all_goals
    go_ret
    refine ⟨ret_bool ?_, HW⟩
    have l1 := H1.out
    have l2 := H2.out
    have l3 := H3.out
    have l4 := H4.out
    clear H1 H2 H3 H4 HW HA HB HA0 HA1 HB0 HB1
    simp_all
end Go.Proofs.Ytgdihccmkleimaa.LabelLaw
