/- The walk of ringkeep5.LimitBack. -/
import Derived.Test.YtgdihccmkleimaaLimitRoom
import Derived.Test.YtgdihccmkleimaaCommon
namespace Go.Proofs.Ytgdihccmkleimaa.LimitLaw
open Go.RowKit
open BoxLaw (Rg Lies IsL cellsR cellsR_at cellsR_length)
set_option linter.unusedVariables false

theorem isL_two (w : World) (r s : Rg) (T : TypeId) : IsL (w.alloc (.cells #[.int .i64 r.a, .int .i64 r.b, .int .i64 r.n, .int .i64 s.a, .int .i64 s.b, .int .i64 s.n] T)) (.slice (some ⟨w.heap.size, 0, none⟩) 2 2) [r, s] := by
  refine ⟨_, 2, rfl, Nat.le_refl _, .inr ⟨_, _, rfl, by simp, ?_, ?_, ?_⟩⟩
  all_goals
    intro i hi
    have : i = 0 ∨ i = 1 := by simp at hi; omega
    rcases this with rfl | rfl
    all_goals
      rw [cell_of_row _ _ _ _ _ _ (heap_alloc_new w _)]
      rfl
theorem take_two : takeR [⟨-1, 0, 5⟩, ⟨0, 0, 9⟩] 1 4 = ([⟨-1, 4, 5⟩, ⟨0, 4, 9⟩], 0) := rfl

theorem isL_cells {w : World} {v : Value} {r s : Rg} (h : IsL w v [r, s]) : ∃ b off cap, v = .slice (some ⟨b, off, none⟩) 2 cap ∧ 2 ≤ cap ∧ w.cell? ⟨b, off + 1, none⟩ = some (.int .i64 r.b) ∧ w.cell? ⟨b, off + 3 + 1, none⟩ = some (.int .i64 s.b) := by
  obtain ⟨a, cap, rfl, hl, h⟩ := h
  rcases h with h | ⟨b, off, rfl, hL⟩
  · cases h
  · exact ⟨b, off, cap, rfl, hl, hL.cb 0 (by simp), hL.cb 1 (by simp)⟩

theorem limits_any (w : World) : Calls Try.prog 37 #[] w fun e w' => e = .returned (.bool true) ∧ Below w.heap.size w w' := by
  go_enter Try.func37, Try.ntmps37
  go_wp2_with fail
  refine (take_is (l := [⟨-1, 0, 5⟩, ⟨0, 0, 9⟩]) 1 4 (isL_two w ⟨-1, 0, 5⟩ ⟨0, 0, 9⟩ _)).mono ?_
  rintro e w1 ⟨v, rfl, hI, hb⟩
  rw [take_two] at hI ⊢
  obtain ⟨b, off, cap, rfl, hc, c1, c2⟩ := isL_cells hI
  clear hI
  go_wp2
  go_ret
  exact ⟨rfl, ((Below.refl _ _).alloc (Nat.le_refl _) _).trans (hb.mono (by simp))⟩

theorem roomGo_in {l : List Rg} (hg : Good l) : ∀ (f : Nat) (k room : Int), k < l.length → 0 ≤ room → room ≤ 1000000 → 0 ≤ roomGo l f k room ∧ roomGo l f k room ≤ 1000000 := by
  intro f
  induction f with
  | zero => intro k room _ h0 h1; exact ⟨h0, h1⟩
  | succ f ih =>
    intro k room hk h0 h1
    rw [roomGo]
    by_cases hn : k < 0
    · rw [if_pos hn]; exact ⟨h0, h1⟩
    · rw [if_neg hn]
      have hu := hg.up k.toNat (by omega)
      have hm := hg.num k.toNat (by omega)
      exact ih _ _ (by omega) (by omega) (by omega)
theorem roomR_in (l : List Rg) (k : Int) : 0 ≤ (roomR l k).1 ∧ (roomR l k).1 ≤ 1000000 := by
  unfold roomR
  by_cases hc : chkT l = 0
  · rw [if_pos hc]
    by_cases hk : 0 ≤ k ∧ k < l.length
    · rw [if_pos hk]; exact roomGo_in ((chkT_zero l).1 hc).2.1 _ _ _ hk.2 (by omega) (by omega)
    · rw [if_neg hk]; simp
  · rw [if_neg hc]; simp
theorem zeros (w : World) (T : TypeId) : ∀ i, i < [(0 : Int), 0, 0].length → (w.alloc (.cells #[.int .i64 0, .int .i64 0, .int .i64 0] T)).cell? ⟨w.heap.size, i, none⟩ = some (.int .i64 ([(0 : Int), 0, 0].getD i 0)) := by
  intro i hi
  rw [cell_of_row _ _ _ _ _ _ (heap_alloc_new _ _)]
  have : i = 0 ∨ i = 1 ∨ i = 2 := by simp at hi; omega
  rcases this with rfl | rfl | rfl <;> rfl

set_option maxRecDepth 100000 in
set_option maxHeartbeats 1000000 in
theorem limitback_any {w : World} {v : Value} {l : List Rg} (k n : Int) (h : IsL w v l) :
    Calls Try.prog 11 #[v, .int .i64 k, .int .i64 n] w fun e w' => e = .returned (.bool true) ∧ Below w.heap.size w w' := by
  have hlaw := back_law l k n
  have h12 : chkT l = 0 → l.length ≤ 12 := fun h => ((chkT_zero l).1 h).1
  obtain ⟨p, hp⟩ : ∃ p, p = takeR l k n := ⟨_, rfl⟩
  rw [← hp] at hlaw
  have HP := Lib.hid hp
  have HI := Lib.hid h
  clear hp h
  obtain ⟨m, e⟩ := p
  simp only at hlaw
  rcases hlaw with ⟨h1, rfl⟩ | ⟨rfl, h2, h3, h4, h5, h6, n0, n1⟩
  · have he : (e != 0) = true := by simpa using h1
    clear h1
    go_enter Try.func11, Try.ntmps11
    go_wp2_with fail
    refine (limits_any _).mono ?_
    rintro e w1 ⟨rfl, hb1⟩
    go_wp2_with fail
    refine (take_is _ _ (HI.out.below hb1)).mono ?_
    rintro e w2 ⟨v2, rfl, hI2, hb2⟩
    rw [← HP.out] at hI2 ⊢
    obtain ⟨a, cap, rfl, hl, _⟩ := hI2
    go_wp2
    go_ret
    exact ⟨rfl, hb1.trans (hb2.mono hb1.size)⟩
  · obtain ⟨q, hq⟩ : ∃ q, q = giveR m k n := ⟨_, rfl⟩
    obtain ⟨x, hx⟩ : ∃ x, x = roomR l k := ⟨_, rfl⟩
    obtain ⟨y, hy⟩ : ∃ y, y = roomR m k := ⟨_, rfl⟩
    have hcl : l.length ≤ 12 := by
      refine h12 ?_
      have := HP.out
      unfold takeR at this
      by_cases hc : chkT l = 0
      · exact hc
      · rw [if_neg hc] at this; have := congrArg Prod.snd this; exact this.symm
    have hxb : 0 ≤ x.1 ∧ x.1 ≤ 1000000 := by rw [hx]; exact roomR_in l k
    rw [← hq] at h2
    rw [← hx] at h3 h6
    rw [← hy] at h4 h6
    obtain ⟨x, e2⟩ := x
    obtain ⟨y, e3⟩ := y
    simp only at h3 h4 h6 hxb
    subst h2 h3 h4 h6
    have HQ := Lib.hid hq
    have HX := Lib.hid hx
    have HY := Lib.hid hy
    have HC := Lib.hid h5
    clear hq hx hy h5 h12
    obtain ⟨x0, x1⟩ := hxb
    go_enter Try.func11, Try.ntmps11
    go_wp2_with fail
    refine (limits_any _).mono ?_
    rintro e w1 ⟨rfl, hb1⟩
    go_wp2_with fail
    refine (take_is _ _ (HI.out.below hb1)).mono ?_
    rintro e w2 ⟨v2, rfl, hI2, hb2⟩
    rw [← HP.out] at hI2 ⊢
    have HI2 := Lib.hid hI2
    have hb12 := hb1.trans (hb2.mono hb1.size)
    clear hI2 hb1 hb2
    go_wp2_with fail
    refine (give_is _ _ HI2.out).mono ?_
    rintro e w3 ⟨v3, rfl, hI3, hb3⟩
    rw [← HQ.out] at hI3 ⊢
    have HI3 := Lib.hid hI3
    have hb123 := hb12.trans (hb3.mono hb12.size)
    have HI23 := Lib.hid (HI2.out.below hb3)
    clear hI3 hb12 hb3
    go_wp2_with fail
    refine (room_is _ (HI.out.below hb123)).mono ?_
    rintro e w4 ⟨rfl, hb4⟩
    rw [← HX.out]
    have HI24 := Lib.hid (HI23.out.below hb4)
    have HI34 := Lib.hid (HI3.out.below hb4)
    have hb1234 := hb123.trans (hb4.mono hb123.size)
    clear hb4 hb123
    go_wp2_with fail
    refine (room_is _ HI24.out).mono ?_
    rintro e w5 ⟨rfl, hb5⟩
    rw [← HY.out]
    have HI25 := Lib.hid (HI24.out.below hb5)
    have HI35 := Lib.hid (HI34.out.below hb5)
    have hb12345 := hb1234.trans (hb5.mono hb1234.size)
    clear hb5 hb1234
    go_wp2_with fail
    refine (good_any _ _ [0, 0, 0] _ (by simp) (zeros _ _)).mono ?_
    rintro e w6 ⟨rfl, rfl⟩
    rw [show ([(0 : Int), 0, 0].all (· == 0)) = true from rfl]
    have hA : Below w5.heap.size w5 (w5.alloc (.cells #[.int .i64 0, .int .i64 0, .int .i64 0] 23)) := (Below.refl _ _).alloc (Nat.le_refl _) _
    have hbA := hb12345.trans (hA.mono hb12345.size)
    have HI26 := Lib.hid (HI25.out.below hA)
    have HI36 := Lib.hid (HI35.out.below hA)
    have HI6 := Lib.hid (HI.out.below hbA)
    clear hA hb12345
    go_wp2_with fail
    refine (check_is HI26.out).mono ?_
    rintro e w7 ⟨rfl, hb7⟩
    rw [HC.out]
    have HI37 := Lib.hid (HI36.out.below hb7)
    have HI7 := Lib.hid (HI6.out.below hb7)
    have hbB := hbA.trans (hb7.mono hbA.size)
    clear hb7 hbA
    go_wp2_with fail
    refine (equal_is hcl HI37.out HI7.out).mono ?_
    rintro e w8 ⟨rfl, hb8⟩
    have hbC := hbB.trans (hb8.mono hbB.size)
    clear hb8 hbB
    go_wp2
    go_ret
    exact ⟨rfl, hbC⟩
end Go.Proofs.Ytgdihccmkleimaa.LimitLaw
