/- The walk of ringkeep5.LabelLattice where a label is not right, and for all labels. -/
import Derived.Test.YtgdihccmkleimaaLabelLattice
namespace Go.Proofs.Ytgdihccmkleimaa.LabelLaw
open Go.RowKit
set_option linter.unusedVariables false

theorem bothE_01 (a b : Lab) : bothE a b = 0 ∨ bothE a b = 1 := by unfold bothE; split <;> simp
theorem bothE_not {a b : Lab} (h : ¬ (okL a = true ∧ okL b = true)) : bothE a b = 1 := if_neg h
theorem flowsR_not {a b : Lab} (h : bothE a b ≠ 0) : flowsR a b = false := by
  unfold bothE at h; unfold flowsR
  split at h
  · exact absurd rfl h
  · rename_i h'; exact if_neg h'
theorem some_bad {a b c : Lab} (h : ¬ (okL a = true ∧ okL b = true ∧ okL c = true)) : ([bothE a b, bothE b c, bothE a c, bothE b a, bothE a b, bothE a b].all (· == 0)) = false := by
  have : bothE a b = 1 ∨ bothE b c = 1 := by
    by_cases h1 : okL a = true ∧ okL b = true
    · exact .inr (bothE_not fun h2 => h ⟨h1.1, h1.2, h2.2⟩)
    · exact .inl (bothE_not h1)
  rcases this with h | h <;> simp [h]

set_option maxRecDepth 100000 in
set_option maxHeartbeats 2000000 in
theorem lattice_bad (a b c : Lab) (w : World) (h : ¬ (okL a = true ∧ okL b = true ∧ okL c = true)) :
    Calls Try.prog 6 #[.agg #[.int .i64 a.l, .int .i64 a.k], .agg #[.int .i64 b.l, .int .i64 b.k], .agg #[.int .i64 c.l, .int .i64 c.k]] w fun e w' => e = .returned (.bool true) ∧ Below w.heap.size w w' := by
  have HG := Lib.hid (some_bad h)
  clear h
  have hc : bothE a b = 0 ∨ (bothE a b = 1 ∧ flowsR a b = false) := by
    rcases bothE_01 a b with h | h
    · exact .inl h
    · exact .inr ⟨h, flowsR_not (by omega)⟩
  have HCS := Lib.hid hc
  clear hc
  obtain ⟨e1, he1⟩ : ∃ q, q = bothE a b := ⟨_, rfl⟩
  obtain ⟨e2, he2⟩ : ∃ q, q = bothE b c := ⟨_, rfl⟩
  obtain ⟨e3, he3⟩ : ∃ q, q = bothE a c := ⟨_, rfl⟩
  obtain ⟨e4, he4⟩ : ∃ q, q = bothE b a := ⟨_, rfl⟩
  obtain ⟨ab, hab⟩ : ∃ q, q = flowsR a b := ⟨_, rfl⟩
  rw [← he1, ← he2, ← he3, ← he4] at HG
  rw [← he1, ← hab] at HCS
  have E1 := Lib.hid he1
  have E2 := Lib.hid he2
  have E3 := Lib.hid he3
  have E4 := Lib.hid he4
  have FAB := Lib.hid hab
  clear he1 he2 he3 he4 hab
  go_enter Try.func6, Try.ntmps6
  go_wp2_with fail
  refine (labels_any _).mono ?_
  rintro e w1 ⟨rfl, hb1⟩
  have HA := (((has_new w [.int .i64 a.l, .int .i64 a.k] 43).alloc _).alloc _).keep hb1
  have HB := ((has_new (w.alloc (.cells #[.int .i64 a.l, .int .i64 a.k] 43)) [.int .i64 b.l, .int .i64 b.k] 43).alloc _).keep hb1
  have HC := (has_new ((w.alloc (.cells #[.int .i64 a.l, .int .i64 a.k] 43)).alloc (.cells #[.int .i64 b.l, .int .i64 b.k] 43)) [.int .i64 c.l, .int .i64 c.k] 43).keep hb1
  simp only [World.size_alloc] at HB HC
  have HW := ((((Below.refl _ _).alloc (Nat.le_refl _) _).alloc (by simp) _).alloc (by simp; omega) _).trans (hb1.mono (B' := w.heap.size) (by simp; omega))
  clear hb1
  have HA0 := HA.c0
  have HA1 := HA.c1
  have HB0 := HB.c0
  have HB1 := HB.c1
  have HC0 := HC.c0
  have HC1 := HC.c1
  go_wp2_with fail
  clear HA0 HA1 HB0 HB1 HC0 HC1
  refine (flows_any a b _).mono ?_
  rintro e w2 ⟨rfl, hb2⟩
  rw [← FAB.out, ← E1.out]
  replace HA := HA.keep hb2
  replace HB := HB.keep hb2
  replace HC := HC.keep hb2
  replace HW := HW.trans (hb2.mono (by have := HW.size; first | exact this | (simp; omega)))
  clear hb2
  have HA0 := HA.c0
  have HA1 := HA.c1
  have HB0 := HB.c0
  have HB1 := HB.c1
  have HC0 := HC.c0
  have HC1 := HC.c1
  go_wp2_with fail
  clear HA0 HA1 HB0 HB1 HC0 HC1
  refine (flows_any b c _).mono ?_
  rintro e w3 ⟨rfl, hb3⟩
  rw [← E2.out]
  replace HA := HA.keep hb3
  replace HB := HB.keep hb3
  replace HC := HC.keep hb3
  replace HW := HW.trans (hb3.mono (by have := HW.size; first | exact this | (simp; omega)))
  clear hb3
  have HA0 := HA.c0
  have HA1 := HA.c1
  have HB0 := HB.c0
  have HB1 := HB.c1
  have HC0 := HC.c0
  have HC1 := HC.c1
  go_wp2_with fail
  clear HA0 HA1 HB0 HB1 HC0 HC1
  refine (flows_any a c _).mono ?_
  rintro e w4 ⟨rfl, hb4⟩
  rw [← E3.out]
  replace HA := HA.keep hb4
  replace HB := HB.keep hb4
  replace HC := HC.keep hb4
  replace HW := HW.trans (hb4.mono (by have := HW.size; first | exact this | (simp; omega)))
  clear hb4
  have HA0 := HA.c0
  have HA1 := HA.c1
  have HB0 := HB.c0
  have HB1 := HB.c1
  have HC0 := HC.c0
  have HC1 := HC.c1
  go_wp2_with fail
  clear HA0 HA1 HB0 HB1 HC0 HC1
  refine (flows_any b a _).mono ?_
  rintro e w5 ⟨rfl, hb5⟩
  rw [← E4.out]
  replace HA := HA.keep hb5
  replace HB := HB.keep hb5
  replace HC := HC.keep hb5
  replace HW := HW.trans (hb5.mono (by have := HW.size; first | exact this | (simp; omega)))
  clear hb5
  have HA0 := HA.c0
  have HA1 := HA.c1
  have HB0 := HB.c0
  have HB1 := HB.c1
  have HC0 := HC.c0
  have HC1 := HC.c1
  go_wp2_with fail
  clear HA0 HA1 HB0 HB1 HC0 HC1
  refine (join_any a b _).mono ?_
  rintro e w6 ⟨rfl, hb6⟩
  rw [← E1.out]
  replace HA := HA.keep hb6
  replace HB := HB.keep hb6
  replace HC := HC.keep hb6
  replace HW := HW.trans (hb6.mono (by have := HW.size; first | exact this | (simp; omega)))
  clear hb6
  have HA0 := HA.a0
  have HA1 := HA.a1
  have HB0 := HB.a0
  have HB1 := HB.a1
  have HC0 := HC.a0
  have HC1 := HC.a1
  go_wp2_with fail
  clear HA0 HA1 HB0 HB1 HC0 HC1
  refine (meet_any a b _).mono ?_
  rintro e w7 ⟨rfl, hb7⟩
  rw [← E1.out]
  replace HW := (HW.alloc HW.size _).trans (hb7.mono (by have := HW.size; simp; omega))
  clear hb7 HA HB HC
  go_wp2_with fail
  refine (good_any _ 6 [e1, e2, e3, e4, e1, e1] _ (by simp) ?_).mono ?_
  · intro i hi
    match i, hi with
    | 0, _ => simp
    | 1, _ => simp
    | 2, _ => simp
    | 3, _ => simp
    | 4, _ => simp
    | 5, _ => simp
  rintro e w8 ⟨rfl, rfl⟩
  rw [HG.out]
  rcases HCS.out with h | ⟨h, h'⟩
  · have hb : (e1 == 0) = true := by simp [h]
    clear h
    go_wp2
    go_ret
    exact ⟨rfl, (HW.alloc HW.size _).alloc (by have := HW.size; simp; omega) _⟩
  · have hb : (e1 == 0) = false := by simp [h]
    have hn : (!ab) = true := by simp [h']
    clear h h'
    go_wp2
    go_ret
    exact ⟨rfl, (HW.alloc HW.size _).alloc (by have := HW.size; simp; omega) _⟩

theorem lattice_any (a b c : Lab) (w : World) :
    Calls Try.prog 6 #[.agg #[.int .i64 a.l, .int .i64 a.k], .agg #[.int .i64 b.l, .int .i64 b.k], .agg #[.int .i64 c.l, .int .i64 c.k]] w fun e w' => e = .returned (.bool true) ∧ Below w.heap.size w w' := by
  by_cases h : okL a = true ∧ okL b = true ∧ okL c = true
  · exact lattice_ok a b c w h.1 h.2.1 h.2.2
  · exact lattice_bad a b c w h
end Go.Proofs.Ytgdihccmkleimaa.LabelLaw
