/- The law ringkeep5.OpenShare of its Go body: descriptors of one open object share its position; closing one leaves the others open. -/
import Derived.Test.YtddfgdodpjmjfaaOpenCounts
namespace Go.Proofs.Ytddfgdodpjmjfaa.OpenLaw
open Go.RowKit
set_option linter.unusedVariables false

/-- the first descriptor and file of a new table are free -/
theorem open_first {w : World} {b : Nat} {p : Nat} {id may : Int} (h : OTab w b (fun _ => f0) (fun _ => 0)) (h1 : 1 ≤ p) (h2 : p ≤ 16) (hid : 0 ≤ id) (hm : 0 ≤ may) (hm3 : may ≤ 3) :
    Calls Try.prog 47 #[.pointer (some ⟨b, 0, none⟩), .int .i64 p, .agg #[.int .i64 1, .int .i64 id, .int .i64 may, .bool false, .int .i64 0]] w fun e w' =>
      e = .returned (.tuple #[.int .i64 0, .int .i64 0]) ∧ KB b w w' ∧ OTab w' b (updF (fun _ => f0) 0 ⟨1, id, may, false, 0, 1⟩) (updN (fun _ => 0) (p * 8 + 0) 1) := by
  refine (open_is h h1 h2 hid hm hm3).mono ?_
  rintro e w2 ⟨hk2, ⟨j, k, hj, -, hjm, hk, -, hkm, rfl, ht2⟩ | ⟨h, -, -⟩⟩
  · obtain rfl : j = 0 := by
      rcases Nat.eq_zero_or_pos j with h | h
      · exact h
      · exact absurd rfl (hjm 0 h)
    obtain rfl : k = 0 := by
      rcases Nat.eq_zero_or_pos k with h | h
      · exact h
      · exact absurd rfl (hkm 0 h)
    exact ⟨rfl, hk2, ht2⟩
  · rcases h with h | h
    · exact absurd rfl (h 0 (by decide))
    · exact absurd rfl (h 0 (by decide))
/-- a table with one open file, no. 0, which two descriptors share -/
structure Two (w : World) (b : Nat) (x : Int) (n : Nat) (d1 d2 : Option Nat) : Prop where
  T : ∃ fs fd, OTab w b fs fd ∧ fs 0 = ⟨1, 9, 3, false, x, n⟩ ∧ (∀ q, d1 = some q → fd q = 1) ∧ (∀ q, d2 = some q → fd q = 1)
theorem Two.of {w : World} {b : Nat} {x : Int} {n : Nat} {q1 q2 : Nat} {fs : Nat → F} {fd : Nat → Nat} (h : OTab w b fs fd) (e : fs 0 = ⟨1, 9, 3, false, x, n⟩) (e1 : fd q1 = 1) (e2 : fd q2 = 1) : Two w b x n (some q1) (some q2) :=
  ⟨fs, fd, h, e, fun q hq => by cases hq; exact e1, fun q hq => by cases hq; exact e2⟩
theorem Two.keep {w w' : World} {b : Nat} {x : Int} {n : Nat} {d1 d2 : Option Nat} (h : Two w b x n d1 d2) (hb : Below w.heap.size w w') : Two w' b x n d1 d2 := by
  obtain ⟨fs, fd, t, r⟩ := h.T
  exact ⟨fs, fd, t.keep hb, r⟩
theorem Two.alloc {w : World} {b : Nat} {x : Int} {n : Nat} {d1 d2 : Option Nat} (h : Two w b x n d1 d2) (o : Obj) : Two (w.alloc o) b x n d1 d2 := h.keep ((Below.refl _ _).alloc (Nat.le_refl _) o)
def th (x : Int) : Value := .agg #[.int .i64 1, .int .i64 9, .int .i64 3, .bool false, .int .i64 x]
theorem two_seek {w : World} {b p j : Nat} {x y : Int} {n : Nat} {d2 : Option Nat} (h : Two w b x n (some (p * 8 + j)) d2) (h1 : 1 ≤ p) (h2 : p ≤ 16) (hj : j < 8) (ha : 0 ≤ y) (hb : y ≤ 512) : Calls Try.prog 50 #[.pointer (some ⟨b, 0, none⟩), .int .i64 p, .int .i64 j, .int .i64 y] w fun e w' => e = .returned (.int .i64 0) ∧ KB b w w' ∧ Two w' b y n (some (p * 8 + j)) d2 := by
  obtain ⟨fs, fd, t, e0, e1, e2⟩ := h.T
  refine (seek_is (k := 0) t h1 h2 hj (e1 _ rfl) ha hb).mono ?_
  rintro e w' ⟨rfl, hk, ht⟩
  exact ⟨rfl, hk, _, _, ht, by rw [updF_same, e0], e1, e2⟩
theorem two_get {w : World} {b p j : Nat} {x : Int} {n : Nat} {d1 : Option Nat} (h : Two w b x n d1 (some (p * 8 + j))) (h1 : 1 ≤ p) (h2 : p ≤ 16) (hj : j < 8) : Calls Try.prog 51 #[.pointer (some ⟨b, 0, none⟩), .int .i64 p, .int .i64 j] w fun e w' => e = .returned (.tuple #[th x, .int .i64 0]) ∧ Below w.heap.size w w' ∧ Two w' b x n d1 (some (p * 8 + j)) := by
  obtain ⟨fs, fd, t, e0, e1, e2⟩ := h.T
  refine (get_is (k := 0) t h1 h2 hj (e2 _ rfl)).mono ?_
  rintro e w' ⟨rfl, hb⟩
  exact ⟨by rw [e0]; rfl, hb, h.keep hb⟩
theorem two_close1 {w : World} {b p j q : Nat} {x : Int} (h : Two w b x 2 (some (p * 8 + j)) (some q)) (h1 : 1 ≤ p) (h2 : p ≤ 16) (hj : j < 8) (hq : q ≠ p * 8 + j) : Calls Try.prog 52 #[.pointer (some ⟨b, 0, none⟩), .int .i64 p, .int .i64 j] w fun e w' => e = .returned (.tuple #[th x, .bool false, .int .i64 0]) ∧ KB b w w' ∧ Two w' b x 1 none (some q) := by
  obtain ⟨fs, fd, t, e0, e1, e2⟩ := h.T
  refine (close_is (k := 0) t h1 h2 hj (e1 _ rfl) (by rw [e0]; exact (by decide : (0 : Int) < 2)) (by rw [e0]; exact (by decide : (2 : Int) ≤ 200))).mono ?_
  rintro e w' ⟨rfl, hk, ht⟩
  refine ⟨by rw [e0]; rfl, hk, ⟨_, _, ht, by rw [updF_same, e0]; rfl, fun r hr => by (cases hr), fun r hr => ?_⟩⟩
  cases hr
  rw [updN_other _ _ hq]
  exact e2 _ rfl
theorem two_close2 {w : World} {b p j : Nat} {x : Int} (h : Two w b x 1 none (some (p * 8 + j))) (h1 : 1 ≤ p) (h2 : p ≤ 16) (hj : j < 8) : Calls Try.prog 52 #[.pointer (some ⟨b, 0, none⟩), .int .i64 p, .int .i64 j] w fun e w' => e = .returned (.tuple #[th x, .bool true, .int .i64 0]) ∧ KB b w w' := by
  obtain ⟨fs, fd, t, e0, e1, e2⟩ := h.T
  refine (close_is (k := 0) t h1 h2 hj (e2 _ rfl) (by rw [e0]; exact (by decide : (0 : Int) < 1)) (by rw [e0]; exact (by decide : (1 : Int) ≤ 200))).mono ?_
  rintro e w' ⟨rfl, hk, ht⟩
  exact ⟨by rw [e0]; rfl, hk⟩
/-- one file, one descriptor -/
abbrev fd1 : Nat → Nat := updN (fun _ => 0) (2 * 8 + 0) 1
abbrev fs1 : Nat → F := updF (fun _ => f0) 0 ⟨1, 9, 3, false, 0, 1⟩
theorem one_fork {w : World} {b : Nat} (h : OTab w b fs1 fd1) : Calls Try.prog 48 #[.pointer (some ⟨b, 0, none⟩), .int .i64 2, .int .i64 5] w fun e w' => e = .returned (.int .i64 0) ∧ KB b w w' ∧ Two w' b 0 2 (some (2 * 8 + 0)) (some (5 * 8 + 0)) := by
  refine (fork_is (p := 2) (c := 5) h (by decide) (by decide) (by decide) (by decide) (by decide) (fun i hi => by show updN _ _ _ _ = 0; rw [updN_other _ _ (by omega)]) (fun k hk => by
    by_cases e : k = 0
    · subst e; show 0 ≤ (1 : Int) ∧ (1 : Int) ≤ 200; decide
    · unfold fs1; rw [updF_other _ _ e]; decide)).mono ?_
  rintro e w' ⟨rfl, hk, ht⟩
  exact ⟨rfl, hk, Two.of ht (by kernel_rfl) (by kernel_rfl) (by kernel_rfl)⟩
theorem one_dup {w : World} {b to : Nat} (h : OTab w b fs1 fd1) (h0 : 1 ≤ to) (h8 : to < 8) : Calls Try.prog 49 #[.pointer (some ⟨b, 0, none⟩), .int .i64 2, .int .i64 0, .int .i64 to] w fun e w' => e = .returned (.tuple #[.agg z5, .bool false, .int .i64 0]) ∧ KB b w w' ∧ Two w' b 0 2 (some (2 * 8 + 0)) (some (2 * 8 + to)) := by
  refine (dup_free (p := 2) (j := 0) (k := 0) h (by decide) (by decide) (by decide) h8 (by omega) (updN_same _ _ _) (by show updN _ _ _ _ = 0; rw [updN_other _ _ (by omega)]) (by show 0 ≤ (1 : Int) ∧ (1 : Int) ≤ 200; decide)).mono ?_
  rintro e w' ⟨rfl, hk, ht⟩
  exact ⟨rfl, hk, Two.of ht (by kernel_rfl) (by rw [updN_other _ _ (by omega)]; exact updN_same _ _ _) (updN_same _ _ _)⟩
set_option maxRecDepth 100000 in
set_option maxHeartbeats 1000000 in
theorem openshare_any (at' to : Int) (child : Bool) (w : World) : Calls Try.prog 13 #[.int .i64 at', .int .i64 to, .bool child] w fun e w' => e = .returned (.bool true) ∧ Below w.heap.size w w' := by
  obtain ⟨x, hx⟩ : ∃ x, x = at' % 513 := ⟨_, rfl⟩
  obtain ⟨t, ht⟩ : ∃ t : Nat, (t : Int) = 1 + to % 7 := ⟨(1 + to % 7).toNat, by omega⟩
  have ha0 : 0 ≤ x := by omega
  have ha1 : x ≤ 512 := by omega
  have ht7 : (t : Int) < 8 := by omega
  have ht1 : 1 ≤ (t : Int) := by omega
  have HTN := Lib.hid (show 1 ≤ t ∧ t < 8 by omega)
  have HX := Lib.hid hx
  have HT0 := Lib.hid ht
  clear hx ht
  go_enter Try.func13, Try.ntmps13
  go_wp2_with fail
  refine (opens_is _).mono ?_
  rintro e w0 ⟨rfl, hb0⟩
  go_wp2_with fail
  refine (new_is _).mono ?_
  rintro e w1 ⟨rfl, hb1, hs1, ht1⟩
  have HB1 := Lib.hid (hb0.trans (hb1.mono hb0.size))
  have hbw : w.heap.size ≤ w0.heap.size := hb0.size
  have HT1 := Lib.hid ht1
  have HB := Lib.hid (show w0.heap.size < w1.heap.size by rw [hs1]; omega)
  clear hb0 hb1 hs1 ht1
  go_wp2_with fail
  refine (within_any _ 513 _ (by decide) (by decide)).mono ?_
  rintro e w2 ⟨rfl, rfl⟩
  rw [← HX.out]
  go_wp2_with fail
  refine (within_any _ 7 _ (by decide) (by decide)).mono ?_
  rintro e w2 ⟨rfl, rfl⟩
  generalize w0.heap.size = b at *
  go_wp2_with fail
  rw [← HT0.out]
  refine (open_first (p := 2) HT1.out (by decide) (by decide) (by decide) (by decide) (by decide)).mono ?_
  rintro e w3 ⟨rfl, hk3, ht3⟩
  have HT3 := Lib.hid ht3
  have HK3 := Lib.hid hk3
  clear hk3 ht3
  cases child
  · go_wp2_with fail
    refine (one_dup HT3.out HTN.out.1 HTN.out.2).mono ?_
    rintro e w3' ⟨rfl, hk, ht⟩
    have HT := Lib.hid ht
    have HK := Lib.hid (HK3.out.trans hk)
    clear hk ht
    go_wp2_with fail
    refine (two_seek HT.out (by decide) (by decide) (by decide) ha0 ha1).mono ?_
    rintro e w4 ⟨rfl, hk4, ht4⟩
    have HT4 := Lib.hid ht4
    have HK4 := Lib.hid (HK.out.trans hk4)
    clear hk4 ht4
    go_wp2_with fail
    refine (two_get HT4.out (by decide) (by decide) HTN.out.2).mono ?_
    rintro e w5 ⟨rfl, hb5, ht5⟩
    have HT5 := Lib.hid (ht5.alloc (.cells #[.int .i64 1, .int .i64 9, .int .i64 3, .bool false, .int .i64 x] 86))
    have HK5 := Lib.hid ((HK4.out.trans (KB.of hb5)).alloc (.cells #[.int .i64 1, .int .i64 9, .int .i64 3, .bool false, .int .i64 x] 86))
    have HA5 := Lib.hid (has_new w5 [.int .i64 1, .int .i64 9, .int .i64 3, .bool false, .int .i64 x] 86)
    have hg5 : w5.heap.size ≠ b := by have := HB.out; have := HK4.out.size; have := hb5.size; omega
    clear hb5 ht5
    simp only [th]
    go_wp2_with fail
    generalize w5.heap.size = g5 at *
    generalize w5.alloc (.cells #[.int .i64 1, .int .i64 9, .int .i64 3, .bool false, .int .i64 x] 86) = w6 at *
    refine (two_close1 HT5.out (by decide) (by decide) (by decide) (by have := HTN.out; omega)).mono ?_
    rintro e w7 ⟨rfl, hk7, ht7⟩
    have HT7 := Lib.hid (ht7.alloc (.cells #[.int .i64 1, .int .i64 9, .int .i64 3, .bool false, .int .i64 x] 86))
    have HK7 := Lib.hid ((HK5.out.trans hk7).alloc (.cells #[.int .i64 1, .int .i64 9, .int .i64 3, .bool false, .int .i64 x] 86))
    have HA7 := Lib.hid ((hk7.has HA5.out hg5).alloc (.cells #[.int .i64 1, .int .i64 9, .int .i64 3, .bool false, .int .i64 x] 86))
    clear hk7 ht7
    simp only [th]
    go_wp2_with fail
    generalize w7.heap.size = g7 at *
    generalize w7.alloc (.cells #[.int .i64 1, .int .i64 9, .int .i64 3, .bool false, .int .i64 x] 86) = w8 at *
    refine (two_get HT7.out (by decide) (by decide) HTN.out.2).mono ?_
    rintro e w9 ⟨rfl, hb9, ht9⟩
    have HT9 := Lib.hid (ht9.alloc (.cells #[.int .i64 1, .int .i64 9, .int .i64 3, .bool false, .int .i64 x] 86))
    have HK9 := Lib.hid ((HK7.out.trans (KB.of hb9)).alloc (.cells #[.int .i64 1, .int .i64 9, .int .i64 3, .bool false, .int .i64 x] 86))
    have HA9 := Lib.hid ((HA7.out.keep hb9).alloc (.cells #[.int .i64 1, .int .i64 9, .int .i64 3, .bool false, .int .i64 x] 86))
    have HC9 := Lib.hid (has_new w9 [.int .i64 1, .int .i64 9, .int .i64 3, .bool false, .int .i64 x] 86)
    have hg9 : w9.heap.size ≠ b := by have := HB.out; have := HK7.out.size; have := hb9.size; omega
    clear hb9 ht9
    simp only [th]
    go_wp2_with fail
    generalize w9.heap.size = g9 at *
    generalize w9.alloc (.cells #[.int .i64 1, .int .i64 9, .int .i64 3, .bool false, .int .i64 x] 86) = w10 at *
    refine (two_close2 HT9.out (by decide) (by decide) HTN.out.2).mono ?_
    rintro e w11 ⟨rfl, hk11⟩
    have HK11 := Lib.hid (HK9.out.trans hk11)
    have hx := ((hk11.has HA9.out hg5).alloc (.cells #[.int .i64 1, .int .i64 9, .int .i64 3, .bool false, .int .i64 x] 86)).alloc (.cells #[.int .i64 0, .int .i64 0, .int .i64 0, .int .i64 0, .int .i64 0, .int .i64 0, .int .i64 0] 26)
    have hy := ((hk11.has HC9.out hg9).alloc (.cells #[.int .i64 1, .int .i64 9, .int .i64 3, .bool false, .int .i64 x] 86)).alloc (.cells #[.int .i64 0, .int .i64 0, .int .i64 0, .int .i64 0, .int .i64 0, .int .i64 0, .int .i64 0] 26)
    clear hk11
    simp only [th]
    have x0 := hx.2 0 _ rfl
    have x1 := hx.2 1 _ rfl
    have x2 := hx.2 2 _ rfl
    have x3 := hx.2 3 _ rfl
    have x4 := hx.2 4 _ rfl
    have y0 := hy.2 0 _ rfl
    have y1 := hy.2 1 _ rfl
    have y2 := hy.2 2 _ rfl
    have y3 := hy.2 3 _ rfl
    have y4 := hy.2 4 _ rfl
    clear hx hy
    have HF := Lib.hid (HB1.out.trans (HK11.out.below hbw HB1.out.size))
    go_wp2_with fail
    refine (good_any _ _ [0, 0, 0, 0, 0, 0, 0] _ (by simp) (seven0 _ _)).mono ?_
    rintro e w12 ⟨rfl, rfl⟩
    rw [show ([(0 : Int), 0, 0, 0, 0, 0, 0].all (· == 0)) = true from rfl]
    go_wp2
    go_ret
    exact ⟨rfl, (HF.out.alloc HF.out.size _).alloc (by have := HF.out.size; simp; omega) _⟩
  · go_wp2_with fail
    refine (one_fork HT3.out).mono ?_
    rintro e w3' ⟨rfl, hk, ht⟩
    have HT := Lib.hid ht
    have HK := Lib.hid (HK3.out.trans hk)
    clear hk ht
    go_wp2_with fail
    refine (two_seek HT.out (by decide) (by decide) (by decide) ha0 ha1).mono ?_
    rintro e w4 ⟨rfl, hk4, ht4⟩
    have HT4 := Lib.hid ht4
    have HK4 := Lib.hid (HK.out.trans hk4)
    clear hk4 ht4
    go_wp2_with fail
    refine (two_get HT4.out (by decide) (by decide) (by decide)).mono ?_
    rintro e w5 ⟨rfl, hb5, ht5⟩
    have HT5 := Lib.hid (ht5.alloc (.cells #[.int .i64 1, .int .i64 9, .int .i64 3, .bool false, .int .i64 x] 86))
    have HK5 := Lib.hid ((HK4.out.trans (KB.of hb5)).alloc (.cells #[.int .i64 1, .int .i64 9, .int .i64 3, .bool false, .int .i64 x] 86))
    have HA5 := Lib.hid (has_new w5 [.int .i64 1, .int .i64 9, .int .i64 3, .bool false, .int .i64 x] 86)
    have hg5 : w5.heap.size ≠ b := by have := HB.out; have := HK4.out.size; have := hb5.size; omega
    clear hb5 ht5
    simp only [th]
    go_wp2_with fail
    generalize w5.heap.size = g5 at *
    generalize w5.alloc (.cells #[.int .i64 1, .int .i64 9, .int .i64 3, .bool false, .int .i64 x] 86) = w6 at *
    refine (two_close1 HT5.out (by decide) (by decide) (by decide) (by decide)).mono ?_
    rintro e w7 ⟨rfl, hk7, ht7⟩
    have HT7 := Lib.hid (ht7.alloc (.cells #[.int .i64 1, .int .i64 9, .int .i64 3, .bool false, .int .i64 x] 86))
    have HK7 := Lib.hid ((HK5.out.trans hk7).alloc (.cells #[.int .i64 1, .int .i64 9, .int .i64 3, .bool false, .int .i64 x] 86))
    have HA7 := Lib.hid ((hk7.has HA5.out hg5).alloc (.cells #[.int .i64 1, .int .i64 9, .int .i64 3, .bool false, .int .i64 x] 86))
    clear hk7 ht7
    simp only [th]
    go_wp2_with fail
    generalize w7.heap.size = g7 at *
    generalize w7.alloc (.cells #[.int .i64 1, .int .i64 9, .int .i64 3, .bool false, .int .i64 x] 86) = w8 at *
    refine (two_get HT7.out (by decide) (by decide) (by decide)).mono ?_
    rintro e w9 ⟨rfl, hb9, ht9⟩
    have HT9 := Lib.hid (ht9.alloc (.cells #[.int .i64 1, .int .i64 9, .int .i64 3, .bool false, .int .i64 x] 86))
    have HK9 := Lib.hid ((HK7.out.trans (KB.of hb9)).alloc (.cells #[.int .i64 1, .int .i64 9, .int .i64 3, .bool false, .int .i64 x] 86))
    have HA9 := Lib.hid ((HA7.out.keep hb9).alloc (.cells #[.int .i64 1, .int .i64 9, .int .i64 3, .bool false, .int .i64 x] 86))
    have HC9 := Lib.hid (has_new w9 [.int .i64 1, .int .i64 9, .int .i64 3, .bool false, .int .i64 x] 86)
    have hg9 : w9.heap.size ≠ b := by have := HB.out; have := HK7.out.size; have := hb9.size; omega
    clear hb9 ht9
    simp only [th]
    go_wp2_with fail
    generalize w9.heap.size = g9 at *
    generalize w9.alloc (.cells #[.int .i64 1, .int .i64 9, .int .i64 3, .bool false, .int .i64 x] 86) = w10 at *
    refine (two_close2 HT9.out (by decide) (by decide) (by decide)).mono ?_
    rintro e w11 ⟨rfl, hk11⟩
    have HK11 := Lib.hid (HK9.out.trans hk11)
    have hx := ((hk11.has HA9.out hg5).alloc (.cells #[.int .i64 1, .int .i64 9, .int .i64 3, .bool false, .int .i64 x] 86)).alloc (.cells #[.int .i64 0, .int .i64 0, .int .i64 0, .int .i64 0, .int .i64 0, .int .i64 0, .int .i64 0] 26)
    have hy := ((hk11.has HC9.out hg9).alloc (.cells #[.int .i64 1, .int .i64 9, .int .i64 3, .bool false, .int .i64 x] 86)).alloc (.cells #[.int .i64 0, .int .i64 0, .int .i64 0, .int .i64 0, .int .i64 0, .int .i64 0, .int .i64 0] 26)
    clear hk11
    simp only [th]
    have x0 := hx.2 0 _ rfl
    have x1 := hx.2 1 _ rfl
    have x2 := hx.2 2 _ rfl
    have x3 := hx.2 3 _ rfl
    have x4 := hx.2 4 _ rfl
    have y0 := hy.2 0 _ rfl
    have y1 := hy.2 1 _ rfl
    have y2 := hy.2 2 _ rfl
    have y3 := hy.2 3 _ rfl
    have y4 := hy.2 4 _ rfl
    clear hx hy
    have HF := Lib.hid (HB1.out.trans (HK11.out.below hbw HB1.out.size))
    go_wp2_with fail
    refine (good_any _ _ [0, 0, 0, 0, 0, 0, 0] _ (by simp) (seven0 _ _)).mono ?_
    rintro e w12 ⟨rfl, rfl⟩
    rw [show ([(0 : Int), 0, 0, 0, 0, 0, 0].all (· == 0)) = true from rfl]
    go_wp2
    go_ret
    exact ⟨rfl, (HF.out.alloc HF.out.size _).alloc (by have := HF.out.size; simp; omega) _⟩
end Go.Proofs.Ytddfgdodpjmjfaa.OpenLaw
