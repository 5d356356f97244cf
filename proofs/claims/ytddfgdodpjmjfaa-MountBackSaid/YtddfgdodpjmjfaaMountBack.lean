/- The walk of ringkeep5.MountBack. -/
import Derived.Test.YtddfgdodpjmjfaaMountDel
import Derived.Test.YtddfgdodpjmjfaaMountOpen
namespace Go.Proofs.Ytddfgdodpjmjfaa.MountLaw
open Go.RowKit
set_option linter.unusedVariables false

theorem down_more {l : List Mt} : ∀ {f : Nat} {n x : Int}, downR l f n = some x → downR l (f + 1) n = some x := by
  intro f
  induction f with
  | zero => intro n x h; cases h
  | succ f ih =>
    intro n x h
    cases hs : stepR l n with
    | none => rw [down_end hs] at h ⊢; exact h
    | some y => rw [down_go hs] at h ⊢; exact ih h
theorem step_left {l : List Mt} {m : Mt} {n y : Int} (h : stepR l n = some y) : stepR (l ++ [m]) n = some y := by
  unfold stepR at h ⊢
  rw [List.find?_append]
  cases hf : l.find? (fun m => m.a == n) with
  | none => rw [hf] at h; cases h
  | some q => rw [hf] at h; exact h
theorem step_right {l : List Mt} {m : Mt} {n : Int} (h : stepR l n = none) (hn : m.a ≠ n) : stepR (l ++ [m]) n = none := by
  unfold stepR at h ⊢
  rw [List.find?_append]
  cases hf : l.find? (fun m => m.a == n) with
  | none => simp [hn]
  | some q => rw [hf] at h; cases h
theorem down_same {l : List Mt} {m : Mt} {x : Int} (hx : m.a ≠ x) : ∀ {f : Nat} {n : Int}, downR l f n = some x → downR (l ++ [m]) f n = some x := by
  intro f
  induction f with
  | zero => intro n h; cases h
  | succ f ih =>
    intro n h
    cases hs : stepR l n with
    | none =>
      rw [down_end hs] at h
      cases h
      exact down_end (step_right hs hx)
    | some y =>
      rw [down_go hs] at h
      rw [down_go (step_left hs)]
      exact ih h
theorem to_same {l : List Mt} {m : Mt} {n : Int} (hg : Good l) (hx : m.a ≠ to l n) : to (l ++ [m]) n = to l n := by
  have h := down_more (down_same hx (to_is hg n))
  unfold to
  rw [show (l ++ [m]).length + 1 = l.length + 1 + 1 from by simp, h]
  rfl
theorem to_twice {l : List Mt} {n : Int} (hg : Good l) : to l (to l n) = to l n := by
  have h := down_stops (to_is hg n)
  rw [to, down_end h]; rfl
theorem to_not {l : List Mt} {m : Mt} {n : Int} (hg : Good (l ++ [m])) : to (l ++ [m]) n ≠ m.a := by
  intro e
  have h := down_stops (to_is hg n)
  rw [e] at h
  unfold stepR at h
  rw [List.find?_append] at h
  cases hf : l.find? (fun q => q.a == m.a) with
  | none => rw [hf] at h; simp at h
  | some q => rw [hf] at h; cases h
theorem four0 (w : World) (T : TypeId) : ∀ i, i < [(0 : Int), 0, 0, 0].length → (w.alloc (.cells #[.int .i64 0, .int .i64 0, .int .i64 0, .int .i64 0] T)).cell? ⟨w.heap.size, i, none⟩ = some (.int .i64 ([(0 : Int), 0, 0, 0].getD i 0)) := by
  intro i hi
  rw [cell_of_row _ _ _ _ _ _ (heap_alloc_new _ _)]
  have : i = 0 ∨ i = 1 ∨ i = 2 ∨ i = 3 := by simp at hi; omega
  rcases this with rfl | rfl | rfl | rfl <;> rfl

set_option maxRecDepth 100000 in
set_option maxHeartbeats 4000000 in
theorem mountback_any {w : World} {v : Value} {l : List Mt} (x y n0 : Int) (hm : MS w v l) : Calls Try.prog 12 #[v, .int .i64 x, .int .i64 y, .int .i64 n0] w fun e w' => e = .returned (.bool true) ∧ Below w.heap.size w w' := by
  obtain ⟨A, hA⟩ : ∃ A : Int, n0 % 32 = A := ⟨_, rfl⟩
  have hA0 : 0 ≤ A := by omega
  have hA1 : A < 32 := by omega
  obtain ⟨n, hn⟩ : ∃ n : Int, 1 + A = n := ⟨_, rfl⟩
  have hin := Lib.hid (show inode n from ⟨by omega, by omega⟩)
  have HAA := Lib.hid hA
  have Hn := Lib.hid hn
  have HMS := Lib.hid hm
  obtain ⟨a, cap, rfl, _⟩ := hm
  generalize hlen : l.length = len at *
  clear hA hn
  go_enter Try.func12, Try.ntmps12
  go_wp2_with fail
  refine (mounts_any _).mono ?_
  rintro e w1 ⟨rfl, hb1⟩
  have HM1 := Lib.hid (HMS.out.below hb1)
  have HB1 := Lib.hid hb1
  clear hb1
  go_wp2_with fail
  refine (within_any n0 32 _ (by decide) (by decide)).mono ?_
  rintro e w2 ⟨rfl, rfl⟩
  rw [HAA.out]
  go_wp2_with fail
  rw [Hn.out]
  clear hA0 hA1
  refine (add_is x y HM1.out).mono ?_
  rintro e w2 ⟨v', en, rfl, hb2, hcase⟩
  have HM2 := Lib.hid (HM1.out.below hb2)
  have HB2 := Lib.hid (HB1.out.trans (hb2.mono HB1.out.size))
  clear hb2
  rcases hcase with ⟨rfl, hg, hgm, base, _, hown⟩ | ⟨hen, rfl, _⟩
  · have hO := ms_owned hown
    have HG := Lib.hid hg
    have HGM := Lib.hid hgm
    have HO := Lib.hid hO
    obtain ⟨av, capv, rfl, _⟩ := hO
    have hx1 := to_twice (n := n) hgm
    have hx2 := to_not (n := n) hgm
    have hx3 : to l n = x ∨ (to l n ≠ x ∧ to (l ++ [⟨x, y⟩]) n = to l n) := by
      by_cases h : to l n = x
      · exact .inl h
      · exact .inr ⟨h, to_same hg (fun e => h e.symm)⟩
    have hz := to_in hgm hin.out
    obtain ⟨z, hzz⟩ : ∃ z, z = to (l ++ [(⟨x, y⟩ : Mt)]) n := ⟨_, rfl⟩
    obtain ⟨u, hu⟩ : ∃ u, u = to l n := ⟨_, rfl⟩
    rw [← hzz] at hx1 hx2 hx3 hz
    rw [← hu] at hx3
    have HX1 := Lib.hid hx1
    have HZ := Lib.hid hz
    have HZZ := Lib.hid hzz
    have HU := Lib.hid hu
    have hzx : (z == x) = false := by simpa using hx2
    have hzz2 : (z != z) = false := by simp
    clear hown hg hgm hx1 hx2 hz hzz hu
    generalize hlm : (l ++ [(⟨x, y⟩ : Mt)]).length = lm at *
    go_wp2_with fail
    refine (out_is HGM.out (m := ⟨x, y⟩) (by rw [← hlm] at HO ⊢; exact HO.out)).mono ?_
    rintro e w3 ⟨vo, rfl, hb3, ho⟩
    have HM3 := Lib.hid (HM2.out.below hb3)
    have HO3 := Lib.hid (HO.out.below hb3)
    have HB3 := Lib.hid (HB2.out.trans (hb3.mono HB2.out.size))
    have HOO := Lib.hid ho
    obtain ⟨ao, capo, rfl, _⟩ := ho
    rw [hlen] at HOO ⊢
    clear hb3
    go_wp2_with fail
    refine (downG_is n HGM.out hin.out HO3.out).mono ?_
    rintro e w4 ⟨rfl, hb4⟩
    rw [← HZZ.out]
    have HM4 := Lib.hid (HM3.out.below hb4)
    have HO4 := Lib.hid (HO3.out.below hb4)
    have HOO4 := Lib.hid (HOO.out.below hb4)
    have HB4 := Lib.hid (HB3.out.trans (hb4.mono HB3.out.size))
    clear hb4
    go_wp2_with fail
    refine (downG_is z HGM.out HZ.out HO4.out).mono ?_
    rintro e w5 ⟨rfl, hb5⟩
    rw [HX1.out]
    have HM5 := Lib.hid (HM4.out.below hb5)
    have HOO5 := Lib.hid (HOO4.out.below hb5)
    have HB5 := Lib.hid (HB4.out.trans (hb5.mono HB4.out.size))
    clear hb5
    go_wp2_with fail
    refine (downG_is n HG.out hin.out HM5.out).mono ?_
    rintro e w6 ⟨rfl, hb6⟩
    rw [← HU.out]
    have HM6 := Lib.hid (HM5.out.below hb6)
    have HOO6 := Lib.hid (HOO5.out.below hb6)
    have HB6 := Lib.hid (HB5.out.trans (hb6.mono HB5.out.size))
    clear hb6
    go_wp2_with fail
    refine (good_any _ _ [0, 0, 0, 0] _ (by simp) (four0 _ _)).mono ?_
    rintro e w7 ⟨rfl, rfl⟩
    rw [show ([(0 : Int), 0, 0, 0].all (· == 0)) = true from rfl]
    have hA7 : Below w6.heap.size w6 (w6.alloc (.cells #[.int .i64 0, .int .i64 0, .int .i64 0, .int .i64 0] 26)) := Go.Joins.below_alloc1 _ _
    have HEQ := Lib.hid (equal_is (Nat.le_trans HG.out.len (by decide)) (HOO6.out.below hA7) (HM6.out.below hA7))
    have HB7 := Lib.hid (HB6.out.trans (hA7.mono HB6.out.size))
    clear hA7
    go_wp2_with fail
    refine HEQ.out.mono ?_
    rintro e w8 ⟨rfl, hb8⟩
    have HB8 := Lib.hid (HB7.out.trans (hb8.mono HB7.out.size))
    clear hb8
    rcases hx3 with hux | ⟨hux, hzu⟩
    · have h1 : (u != x) = false := by simp [hux]
      have h2 : (u == x) = true := by simp [hux]
      clear hux
      go_wp2
      go_ret
      exact ⟨rfl, HB8.out⟩
    · have h1 : (u != x) = true := by simp [hux]
      have h2 : (z == u) = true := by simp [hzu]
      clear hux hzu
      go_wp2
      go_ret
      exact ⟨rfl, HB8.out⟩
  · have hen' : (en != 0) = true := by simp [hen]
    clear hen
    go_wp2
    go_ret
    exact ⟨rfl, HB2.out⟩
end Go.Proofs.Ytddfgdodpjmjfaa.MountLaw
