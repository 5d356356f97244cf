/- The walks of package label. -/
import Derived.Test.YtgdihccmkleimaaLabelPlain
import Derived.Test.YtgdihccmkleimaaCommon
namespace Go.Proofs.Ytgdihccmkleimaa.LabelLaw
open Go.RowKit
set_option linter.unusedVariables false

theorem notok {a : Lab} (h : ¬ okL a = true) : a.l < 0 ∨ (0 ≤ a.l ∧ 7 < a.l) ∨ (0 ≤ a.l ∧ a.l ≤ 7 ∧ a.k < 0) ∨ (0 ≤ a.l ∧ a.l ≤ 7 ∧ 0 ≤ a.k ∧ 255 < a.k) := by
  rw [okL_iff] at h; omega

theorem check_ok (a : Lab) (w : World) (h : okL a = true) :
    Calls Try.prog 70 #[.agg #[.int .i64 a.l, .int .i64 a.k]] w fun e w' => e = .returned (.int .i64 0) ∧ Below w.heap.size w w' := by
  obtain ⟨h1, h2, h3, h4⟩ := (okL_iff a).1 h
  clear h
  go_enter Try.func70, Try.ntmps70
  go_wp2
  go_ret
  exact ⟨rfl, (Below.refl _ _).alloc (Nat.le_refl _) _⟩
theorem check_bad (a : Lab) (w : World) (h : ¬ okL a = true) :
    Calls Try.prog 70 #[.agg #[.int .i64 a.l, .int .i64 a.k]] w fun e w' => e = .returned (.int .i64 1) ∧ Below w.heap.size w w' := by
  rcases notok h with h' | h' | h' | h'
  all_goals
    clear h
    go_enter Try.func70, Try.ntmps70
    go_wp2
    go_ret
    exact ⟨rfl, (Below.refl _ _).alloc (Nat.le_refl _) _⟩

theorem both_ok (a b : Lab) (w : World) (ha : okL a = true) (hb : okL b = true) :
    Calls Try.prog 51 #[.agg #[.int .i64 a.l, .int .i64 a.k], .agg #[.int .i64 b.l, .int .i64 b.k]] w fun e w' => e = .returned (.int .i64 0) ∧ Below w.heap.size w w' := by
  have HA := Lib.hid ha
  have HB := Lib.hid hb
  clear ha hb
  go_enter Try.func51, Try.ntmps51
  go_wp2_with fail
  refine (check_ok a _ HA.out).mono ?_
  rintro e w1 ⟨rfl, hb1⟩
  have c0 := (hb1.cell (p := ⟨w.heap.size + 1, 0, none⟩) (by simp)).trans (by simp : _ = some (.int .i64 b.l))
  have c1 := (hb1.cell (p := ⟨w.heap.size + 1, 1, none⟩) (by simp)).trans (by simp : _ = some (.int .i64 b.k))
  go_wp2_with fail
  refine (check_ok b _ HB.out).mono ?_
  rintro e w2 ⟨rfl, hb2⟩
  go_wp2
  go_ret
  have hs := hb1.size
  simp at hs
  exact ⟨rfl, ((((Below.refl _ _).alloc (Nat.le_refl _) _).alloc (by simp) _).trans (hb1.mono (by simp; omega))).trans (hb2.mono (by omega))⟩
theorem both_bad (a b : Lab) (w : World) (h : ¬ (okL a = true ∧ okL b = true)) :
    Calls Try.prog 51 #[.agg #[.int .i64 a.l, .int .i64 a.k], .agg #[.int .i64 b.l, .int .i64 b.k]] w fun e w' => e = .returned (.int .i64 1) ∧ Below w.heap.size w w' := by
  by_cases ha : okL a = true
  · have hb : ¬ okL b = true := fun hb => h ⟨ha, hb⟩
    have HA := Lib.hid ha
    have HB := Lib.hid hb
    clear ha hb h
    go_enter Try.func51, Try.ntmps51
    go_wp2_with fail
    refine (check_ok a _ HA.out).mono ?_
    rintro e w1 ⟨rfl, hb1⟩
    have c0 := (hb1.cell (p := ⟨w.heap.size + 1, 0, none⟩) (by simp)).trans (by simp : _ = some (.int .i64 b.l))
    have c1 := (hb1.cell (p := ⟨w.heap.size + 1, 1, none⟩) (by simp)).trans (by simp : _ = some (.int .i64 b.k))
    go_wp2_with fail
    refine (check_bad b _ HB.out).mono ?_
    rintro e w2 ⟨rfl, hb2⟩
    go_wp2
    go_ret
    have hs := hb1.size
    simp at hs
    exact ⟨rfl, ((((Below.refl _ _).alloc (Nat.le_refl _) _).alloc (by simp) _).trans (hb1.mono (by simp; omega))).trans (hb2.mono (by omega))⟩
  · have HA := Lib.hid ha
    clear ha h
    go_enter Try.func51, Try.ntmps51
    go_wp2_with fail
    refine (check_bad a _ HA.out).mono ?_
    rintro e w1 ⟨rfl, hb1⟩
    go_wp2
    go_ret
    exact ⟨rfl, ((((Below.refl _ _).alloc (Nat.le_refl _) _).alloc (by simp) _).trans (hb1.mono (by simp; omega)))⟩

/-- the blocks of two boxed labels, still there behind a call -/
theorem boxed {w w1 : World} {a b : Lab} {T : TypeId} (hb1 : Below ((w.alloc (.cells #[.int .i64 a.l, .int .i64 a.k] T)).alloc (.cells #[.int .i64 b.l, .int .i64 b.k] T)).heap.size ((w.alloc (.cells #[.int .i64 a.l, .int .i64 a.k] T)).alloc (.cells #[.int .i64 b.l, .int .i64 b.k] T)) w1) :
    w1.cell? ⟨w.heap.size, 0, none⟩ = some (.int .i64 a.l) ∧ w1.cell? ⟨w.heap.size, 1, none⟩ = some (.int .i64 a.k) ∧ w1.cell? ⟨w.heap.size + 1, 0, none⟩ = some (.int .i64 b.l) ∧ w1.cell? ⟨w.heap.size + 1, 1, none⟩ = some (.int .i64 b.k) ∧ Below w.heap.size w w1 :=
  ⟨(hb1.cell (p := ⟨w.heap.size, 0, none⟩) (by simp; omega)).trans (by simp), (hb1.cell (p := ⟨w.heap.size, 1, none⟩) (by simp; omega)).trans (by simp), (hb1.cell (p := ⟨w.heap.size + 1, 0, none⟩) (by simp)).trans (by simp), (hb1.cell (p := ⟨w.heap.size + 1, 1, none⟩) (by simp)).trans (by simp),
    (((Below.refl _ _).alloc (Nat.le_refl _) _).alloc (by simp) _).trans (hb1.mono (by simp; omega))⟩

theorem flows_ok (a b : Lab) (w : World) (ha : okL a = true) (hb : okL b = true) :
    Calls Try.prog 24 #[.agg #[.int .i64 a.l, .int .i64 a.k], .agg #[.int .i64 b.l, .int .i64 b.k]] w fun e w' => e = .returned (.tuple #[.bool (flowsB a b), .int .i64 0]) ∧ Below w.heap.size w w' := by
  have HA := Lib.hid ha
  have HB := Lib.hid hb
  clear ha hb
  have hcase : (a.l ≤ b.l ∧ (bits .andNot .i64 a.k b.k == 0) = true) ∨ (a.l ≤ b.l ∧ (bits .andNot .i64 a.k b.k == 0) = false) ∨ ¬ a.l ≤ b.l := by
    by_cases h : a.l ≤ b.l
    · cases h2 : (bits .andNot .i64 a.k b.k == 0)
      · exact .inr (.inl ⟨h, rfl⟩)
      · exact .inl ⟨h, rfl⟩
    · exact .inr (.inr h)
  rcases hcase with ⟨h1, h2⟩ | ⟨h1, h2⟩ | h1
  · have HF : Hid (flowsB a b = true) := by show _ = _; rw [flowsB, h2]; simp [h1]
    go_enter Try.func24, Try.ntmps24
    go_wp2_with fail
    refine (both_ok a b _ HA.out HB.out).mono ?_
    rintro e w1 ⟨rfl, hb1⟩
    obtain ⟨c0, c1, d0, d1, hb⟩ := boxed hb1
    clear hb1
    go_wp2
    go_ret2
    exact ⟨by rw [HF.out]; rfl, hb⟩
  · have HF : Hid (flowsB a b = false) := by show _ = _; rw [flowsB, h2]; simp
    go_enter Try.func24, Try.ntmps24
    go_wp2_with fail
    refine (both_ok a b _ HA.out HB.out).mono ?_
    rintro e w1 ⟨rfl, hb1⟩
    obtain ⟨c0, c1, d0, d1, hb⟩ := boxed hb1
    clear hb1
    go_wp2
    go_ret2
    exact ⟨by rw [HF.out]; rfl, hb⟩
  · have HF : Hid (flowsB a b = false) := by show _ = _; rw [flowsB]; simp [h1]
    go_enter Try.func24, Try.ntmps24
    go_wp2_with fail
    refine (both_ok a b _ HA.out HB.out).mono ?_
    rintro e w1 ⟨rfl, hb1⟩
    obtain ⟨c0, c1, d0, d1, hb⟩ := boxed hb1
    clear hb1
    go_wp2
    go_ret2
    exact ⟨by rw [HF.out]; rfl, hb⟩

theorem flows_bad (a b : Lab) (w : World) (h : ¬ (okL a = true ∧ okL b = true)) :
    Calls Try.prog 24 #[.agg #[.int .i64 a.l, .int .i64 a.k], .agg #[.int .i64 b.l, .int .i64 b.k]] w fun e w' => e = .returned (.tuple #[.bool false, .int .i64 1]) ∧ Below w.heap.size w w' := by
  have H := Lib.hid h
  clear h
  go_enter Try.func24, Try.ntmps24
  go_wp2_with fail
  refine (both_bad a b _ H.out).mono ?_
  rintro e w1 ⟨rfl, hb1⟩
  obtain ⟨c0, c1, d0, d1, hb⟩ := boxed hb1
  clear hb1
  go_wp2
  go_ret2
  exact ⟨rfl, hb⟩

def flowsR (a b : Lab) : Bool := if okL a = true ∧ okL b = true then flowsB a b else false
def bothE (a b : Lab) : Int := if okL a = true ∧ okL b = true then 0 else 1
theorem flows_any (a b : Lab) (w : World) :
    Calls Try.prog 24 #[.agg #[.int .i64 a.l, .int .i64 a.k], .agg #[.int .i64 b.l, .int .i64 b.k]] w fun e w' => e = .returned (.tuple #[.bool (flowsR a b), .int .i64 (bothE a b)]) ∧ Below w.heap.size w w' := by
  unfold flowsR bothE
  by_cases h : okL a = true ∧ okL b = true
  · rw [if_pos h, if_pos h]; exact flows_ok a b w h.1 h.2
  · rw [if_neg h, if_neg h]; exact flows_bad a b w h

theorem boxed3 {w w1 : World} {a b : Lab} {T : TypeId} {x y : Int}
    (hb1 : Below (((w.alloc (.cells #[.int .i64 a.l, .int .i64 a.k] T)).alloc (.cells #[.int .i64 b.l, .int .i64 b.k] T)).alloc (.cells #[.int .i64 x, .int .i64 y] T)).heap.size (((w.alloc (.cells #[.int .i64 a.l, .int .i64 a.k] T)).alloc (.cells #[.int .i64 b.l, .int .i64 b.k] T)).alloc (.cells #[.int .i64 x, .int .i64 y] T)) w1) :
    w1.cell? ⟨w.heap.size, 0, none⟩ = some (.int .i64 a.l) ∧ w1.cell? ⟨w.heap.size, 1, none⟩ = some (.int .i64 a.k) ∧ w1.cell? ⟨w.heap.size + 1, 0, none⟩ = some (.int .i64 b.l) ∧ w1.cell? ⟨w.heap.size + 1, 1, none⟩ = some (.int .i64 b.k) ∧
      w1.cell? ⟨w.heap.size + 2, 0, none⟩ = some (.int .i64 x) ∧ w1.cell? ⟨w.heap.size + 2, 1, none⟩ = some (.int .i64 y) ∧ w1.frozen? ⟨w.heap.size + 2, 0, none⟩ = false ∧ w1.frozen? ⟨w.heap.size + 2, 1, none⟩ = false ∧ Below w.heap.size w w1 := by
  have hr := hb1.block (w.heap.size + 2) (by simp)
  rw [show w.heap.size + 2 = ((w.alloc (.cells #[.int .i64 a.l, .int .i64 a.k] T)).alloc (.cells #[.int .i64 b.l, .int .i64 b.k] T)).heap.size by simp, heap_alloc_new] at hr
  have e : ((w.alloc (.cells #[.int .i64 a.l, .int .i64 a.k] T)).alloc (.cells #[.int .i64 b.l, .int .i64 b.k] T)).heap.size = w.heap.size + 2 := by simp
  rw [e] at hr
  refine ⟨?_, ?_, ?_, ?_, ?_, ?_, ?_, ?_, ?_⟩
  · exact (hb1.cell (p := ⟨w.heap.size, 0, none⟩) (by simp; omega)).trans (by rw [World.cell?_alloc_past _ _ _ (by simp; omega)]; simp)
  · exact (hb1.cell (p := ⟨w.heap.size, 1, none⟩) (by simp; omega)).trans (by rw [World.cell?_alloc_past _ _ _ (by simp; omega)]; simp)
  · exact (hb1.cell (p := ⟨w.heap.size + 1, 0, none⟩) (by simp)).trans (by rw [World.cell?_alloc_past _ _ _ (by simp)]; simp)
  · exact (hb1.cell (p := ⟨w.heap.size + 1, 1, none⟩) (by simp)).trans (by rw [World.cell?_alloc_past _ _ _ (by simp)]; simp)
  · rw [cell_of_row _ _ _ _ _ _ hr]; rfl
  · rw [cell_of_row _ _ _ _ _ _ hr]; rfl
  · exact frozen_of_row _ _ _ _ _ hr
  · exact frozen_of_row _ _ _ _ _ hr
  · exact ((((Below.refl _ _).alloc (Nat.le_refl _) _).alloc (by simp) _).alloc (by simp; omega) _).trans (hb1.mono (by simp; omega))

theorem join_bad (a b : Lab) (w : World) (h : ¬ (okL a = true ∧ okL b = true)) :
    Calls Try.prog 25 #[.agg #[.int .i64 a.l, .int .i64 a.k], .agg #[.int .i64 b.l, .int .i64 b.k]] w fun e w' => e = .returned (.tuple #[.agg #[.int .i64 0, .int .i64 0], .int .i64 1]) ∧ Below w.heap.size w w' := by
  have H := Lib.hid h
  clear h
  go_enter Try.func25, Try.ntmps25
  go_wp2_with fail
  refine (both_bad a b _ H.out).mono ?_
  rintro e w1 ⟨rfl, hb1⟩
  obtain ⟨c0, c1, d0, d1, r0, r1, z0, z1, hb⟩ := boxed3 hb1
  clear hb1
  go_wp2
  refine bodyPost_ret (v := .tuple #[.agg #[.int .i64 0, .int .i64 0], .int .i64 1]) (by simp [results, Try.results25, go_sem, r0, r1]) rfl ⟨rfl, ?_⟩
  exact (hb.setCell (by simp; omega) _).setCell (by simp; omega) _

theorem join_ok (a b : Lab) (w : World) (ha : okL a = true) (hb : okL b = true) :
    Calls Try.prog 25 #[.agg #[.int .i64 a.l, .int .i64 a.k], .agg #[.int .i64 b.l, .int .i64 b.k]] w fun e w' => e = .returned (.tuple #[.agg #[.int .i64 (joinL a b).l, .int .i64 (joinL a b).k], .int .i64 0]) ∧ Below w.heap.size w w' := by
  have HA := Lib.hid ha
  have HB := Lib.hid hb
  clear ha hb
  go_enter Try.func25, Try.ntmps25
  go_wp2_with fail
  refine (both_ok a b _ HA.out HB.out).mono ?_
  rintro e w1 ⟨rfl, hb1⟩
  obtain ⟨c0, c1, d0, d1, r0, r1, z0, z1, hb⟩ := boxed3 hb1
  clear hb1
  go_wp2
  all_goals
    refine bodyPost_ret (v := .tuple #[.agg #[.int .i64 (joinL a b).l, .int .i64 (joinL a b).k], .int .i64 0]) (by simp [results, Try.results25, go_sem, r0, r1, joinL]; try omega) rfl ⟨rfl, ?_⟩
    exact (hb.setCell (by simp; omega) _).setCell (by simp; omega) _

theorem meet_bad (a b : Lab) (w : World) (h : ¬ (okL a = true ∧ okL b = true)) :
    Calls Try.prog 26 #[.agg #[.int .i64 a.l, .int .i64 a.k], .agg #[.int .i64 b.l, .int .i64 b.k]] w fun e w' => e = .returned (.tuple #[.agg #[.int .i64 0, .int .i64 0], .int .i64 1]) ∧ Below w.heap.size w w' := by
  have H := Lib.hid h
  clear h
  go_enter Try.func26, Try.ntmps26
  go_wp2_with fail
  refine (both_bad a b _ H.out).mono ?_
  rintro e w1 ⟨rfl, hb1⟩
  obtain ⟨c0, c1, d0, d1, r0, r1, z0, z1, hb⟩ := boxed3 hb1
  clear hb1
  go_wp2
  refine bodyPost_ret (v := .tuple #[.agg #[.int .i64 0, .int .i64 0], .int .i64 1]) (by simp [results, Try.results26, go_sem, r0, r1]) rfl ⟨rfl, ?_⟩
  exact (hb.setCell (by simp; omega) _).setCell (by simp; omega) _

theorem meet_ok (a b : Lab) (w : World) (ha : okL a = true) (hb : okL b = true) :
    Calls Try.prog 26 #[.agg #[.int .i64 a.l, .int .i64 a.k], .agg #[.int .i64 b.l, .int .i64 b.k]] w fun e w' => e = .returned (.tuple #[.agg #[.int .i64 (meetL a b).l, .int .i64 (meetL a b).k], .int .i64 0]) ∧ Below w.heap.size w w' := by
  have HA := Lib.hid ha
  have HB := Lib.hid hb
  clear ha hb
  go_enter Try.func26, Try.ntmps26
  go_wp2_with fail
  refine (both_ok a b _ HA.out HB.out).mono ?_
  rintro e w1 ⟨rfl, hb1⟩
  obtain ⟨c0, c1, d0, d1, r0, r1, z0, z1, hb⟩ := boxed3 hb1
  clear hb1
  go_wp2
  all_goals
    refine bodyPost_ret (v := .tuple #[.agg #[.int .i64 (meetL a b).l, .int .i64 (meetL a b).k], .int .i64 0]) (by simp [results, Try.results26, go_sem, r0, r1, meetL]; try omega) rfl ⟨rfl, ?_⟩
    exact (hb.setCell (by simp; omega) _).setCell (by simp; omega) _

def joinR (a b : Lab) : Lab := if okL a = true ∧ okL b = true then joinL a b else ⟨0, 0⟩
def meetR (a b : Lab) : Lab := if okL a = true ∧ okL b = true then meetL a b else ⟨0, 0⟩
theorem join_any (a b : Lab) (w : World) :
    Calls Try.prog 25 #[.agg #[.int .i64 a.l, .int .i64 a.k], .agg #[.int .i64 b.l, .int .i64 b.k]] w fun e w' => e = .returned (.tuple #[.agg #[.int .i64 (joinR a b).l, .int .i64 (joinR a b).k], .int .i64 (bothE a b)]) ∧ Below w.heap.size w w' := by
  unfold joinR bothE
  by_cases h : okL a = true ∧ okL b = true
  · rw [if_pos h, if_pos h]; exact join_ok a b w h.1 h.2
  · rw [if_neg h, if_neg h]; exact join_bad a b w h
theorem meet_any (a b : Lab) (w : World) :
    Calls Try.prog 26 #[.agg #[.int .i64 a.l, .int .i64 a.k], .agg #[.int .i64 b.l, .int .i64 b.k]] w fun e w' => e = .returned (.tuple #[.agg #[.int .i64 (meetR a b).l, .int .i64 (meetR a b).k], .int .i64 (bothE a b)]) ∧ Below w.heap.size w w' := by
  unfold meetR bothE
  by_cases h : okL a = true ∧ okL b = true
  · rw [if_pos h, if_pos h]; exact meet_ok a b w h.1 h.2
  · rw [if_neg h, if_neg h]; exact meet_bad a b w h
end Go.Proofs.Ytgdihccmkleimaa.LabelLaw
