/- The walks of ringkeep5.modes and ringkeep5.ModeEach. -/
import Derived.Test.YtddfgdodpjmjfaaModePlain
namespace Go.Proofs.Ytddfgdodpjmjfaa.CredLaw
open Go.RowKit
set_option linter.unusedVariables false

theorem nilC (w : World) (c : C) (h : c.xs = []) : IsC w (.agg #[.int .i64 c.user, .int .i64 c.group, .slice none 0 0, .int .i64 c.caps, .int .i64 c.level, .int .i64 c.kind]) c :=
  ⟨.slice none 0 0, rfl, by rw [h]; exact ⟨none, 0, rfl, Nat.le_refl _, Nat.zero_le _, .inl rfl⟩⟩
theorem two0 (w : World) (T : TypeId) : ∀ i, i < [(0 : Int), 0].length → (w.alloc (.cells #[.int .i64 0, .int .i64 0] T)).cell? ⟨w.heap.size, i, none⟩ = some (.int .i64 ([(0 : Int), 0].getD i 0)) := by
  intro i hi
  rw [cell_of_row _ _ _ _ _ _ (heap_alloc_new _ _)]
  have : i = 0 ∨ i = 1 := by simp at hi; omega
  rcases this with rfl | rfl <;> rfl

theorem modes_any (w : World) : Calls Try.prog 23 #[] w fun e w' => e = .returned (.bool true) ∧ Below w.heap.size w w' := by
  have h1 : mayR ⟨0, 420, 1, 0, 0, 0⟩ ⟨1, 0, [], 0, 0, 0⟩ 2 = (true, 0) := by decide +kernel
  have h2 : mayR ⟨0, 420, 1, 0, 0, 0⟩ ⟨2, 0, [], 0, 0, 0⟩ 2 = (false, 0) := by decide +kernel
  have H1 := Lib.hid h1
  have H2 := Lib.hid h2
  have hH := has_new w [.int .i64 0, .int .i64 420, .int .i64 1, .int .i64 0, .int .i64 0, .int .i64 0] 41
  have HH := Lib.hid hH
  clear h1 h2 hH
  have hA : Below w.heap.size w (w.alloc (.cells #[.int .i64 0, .int .i64 420, .int .i64 1, .int .i64 0, .int .i64 0, .int .i64 0] 41)) := Go.Joins.below_alloc1 _ _
  have HA := Lib.hid hA
  clear hA
  go_enter Try.func23, Try.ntmps23
  go_wp2_with fail
  refine (may_is ⟨0, 420, 1, 0, 0, 0⟩ 2 (nilC _ ⟨1, 0, [], 0, 0, 0⟩ rfl)).mono ?_
  rintro e w1 ⟨rfl, hb1⟩
  rw [H1.out]
  have hH1 := HH.out.keep hb1
  have hB1 := HA.out.trans (hb1.mono HA.out.size)
  have s0 := hH1.2 0 _ rfl
  have s1 := hH1.2 1 _ rfl
  have s2 := hH1.2 2 _ rfl
  have s3 := hH1.2 3 _ rfl
  have s4 := hH1.2 4 _ rfl
  have s5 := hH1.2 5 _ rfl
  clear hb1
  go_wp2_with fail
  refine (may_is ⟨0, 420, 1, 0, 0, 0⟩ 2 (nilC _ ⟨2, 0, [], 0, 0, 0⟩ rfl)).mono ?_
  rintro e w2 ⟨rfl, hb2⟩
  rw [H2.out]
  have hB2 := hB1.trans (hb2.mono hB1.size)
  clear s0 s1 s2 s3 s4 s5 hH1 hb2 hB1
  go_wp2_with fail
  refine (good_any _ _ [0, 0] _ (by simp) (two0 _ _)).mono ?_
  rintro e w3 ⟨rfl, rfl⟩
  rw [show ([(0 : Int), 0].all (· == 0)) = true from rfl]
  go_wp2
  go_ret
  exact ⟨rfl, hB2.alloc hB2.size _⟩

set_option maxRecDepth 100000 in
set_option maxHeartbeats 4000000 in
theorem modeeach_any {w : World} {v : Value} {c : C} (s : S) (want more : Int) (h : IsC w v c) :
    Calls Try.prog 5 #[encS s, v, .int .i64 want, .int .i64 more] w fun e w' => e = .returned (.bool true) ∧ Below w.heap.size w w' := by
  obtain ⟨m, rfl, hm⟩ := h
  have hA : Below w.heap.size w ((w.alloc (.cells #[.int .i64 s.kind, .int .i64 s.mode, .int .i64 s.user, .int .i64 s.group, .int .i64 s.size, .int .i64 s.links] 41)).alloc (.cells #[.int .i64 c.user, .int .i64 c.group, m, .int .i64 c.caps, .int .i64 c.level, .int .i64 c.kind] 44)) := Go.Joins.below_alloc2 _ _ _
  have hS0 : Has ((w.alloc (.cells #[.int .i64 s.kind, .int .i64 s.mode, .int .i64 s.user, .int .i64 s.group, .int .i64 s.size, .int .i64 s.links] 41)).alloc (.cells #[.int .i64 c.user, .int .i64 c.group, m, .int .i64 c.caps, .int .i64 c.level, .int .i64 c.kind] 44)) w.heap.size [.int .i64 s.kind, .int .i64 s.mode, .int .i64 s.user, .int .i64 s.group, .int .i64 s.size, .int .i64 s.links] := (has_new w [.int .i64 s.kind, .int .i64 s.mode, .int .i64 s.user, .int .i64 s.group, .int .i64 s.size, .int .i64 s.links] 41).alloc _
  have hC0 : Has ((w.alloc (.cells #[.int .i64 s.kind, .int .i64 s.mode, .int .i64 s.user, .int .i64 s.group, .int .i64 s.size, .int .i64 s.links] 41)).alloc (.cells #[.int .i64 c.user, .int .i64 c.group, m, .int .i64 c.caps, .int .i64 c.level, .int .i64 c.kind] 44)) (w.heap.size + 1) [.int .i64 c.user, .int .i64 c.group, m, .int .i64 c.caps, .int .i64 c.level, .int .i64 c.kind] := by
    have := has_new (w.alloc (.cells #[.int .i64 s.kind, .int .i64 s.mode, .int .i64 s.user, .int .i64 s.group, .int .i64 s.size, .int .i64 s.links] 41)) [.int .i64 c.user, .int .i64 c.group, m, .int .i64 c.caps, .int .i64 c.level, .int .i64 c.kind] 44
    simpa using this
  obtain ⟨k, hk⟩ : ∃ k : Nat, want % 8 = k := ⟨(want % 8).toNat, by omega⟩
  have hk8 : k < 8 := by omega
  obtain ⟨D, hD⟩ : ∃ D : Nat, more % 128 = D := ⟨(more % 128).toNat, by omega⟩
  have hD8 : D < 128 := by omega
  have hfz : ((w.alloc (.cells #[.int .i64 s.kind, .int .i64 s.mode, .int .i64 s.user, .int .i64 s.group, .int .i64 s.size, .int .i64 s.links] 41)).alloc (.cells #[.int .i64 c.user, .int .i64 c.group, m, .int .i64 c.caps, .int .i64 c.level, .int .i64 c.kind] 44)).frozen? ⟨w.heap.size + 1, 3, none⟩ = false := by simp
  have HFZ := Lib.hid hfz
  clear hfz
  have HKK := Lib.hid hk
  have HDD := Lib.hid hD
  have HA := Lib.hid hA
  have HS0 := Lib.hid hS0
  have HC0 := Lib.hid hC0
  have HM := Lib.hid hm
  have hmay := fun (k : Int) (w' : World) (hb : Below w.heap.size w w') => may_is (w := w') (c := c) s k ⟨m, rfl, hm.keep hb⟩
  simp only [encS, encC] at hmay ⊢
  have HMAY := Lib.hid hmay
  clear hA hS0 hC0 hm hmay hk hD
  by_cases hz : (mayR s c k).2 = 0
  · obtain ⟨hc, hf, _⟩ := mayR_ok hz
    have HR := Lib.hid (mayR_is hc hf hk8)
    have HR1 := Lib.hid (mayR_is (k := k &&& 1) hc hf (Nat.lt_of_le_of_lt Nat.and_le_left hk8))
    have HR2 := Lib.hid (mayR_is (k := k &&& 2) hc hf (Nat.lt_of_le_of_lt Nat.and_le_left hk8))
    have HR4 := Lib.hid (mayR_is (k := k &&& 4) hc hf (Nat.lt_of_le_of_lt Nat.and_le_left hk8))
    have hmore : ∀ w' : World, Below w.heap.size w w' → Calls Try.prog 24 #[encS s, .agg #[.int .i64 c.user, .int .i64 c.group, m, .int .i64 (bits .or .i64 c.caps D), .int .i64 c.level, .int .i64 c.kind], .int .i64 k] w' fun e w'' => e = .returned (.tuple #[.bool (mayB s (moreC c D) k), .int .i64 0]) ∧ Below w'.heap.size w' w'' := fun w' hb => by
      have := may_is (c := moreC c D) s k ⟨m, rfl, HM.out.keep hb⟩
      rw [mayR_is (more_chk hc hD8) hf hk8] at this
      exact this
    have hE := each_law (s := s) c hk8 hf
    have hG := more_law (s := s) (k := k) hc hD8 hf
    obtain ⟨a, ha⟩ : ∃ a, a = mayB s c k := ⟨_, rfl⟩
    obtain ⟨a1, ha1⟩ : ∃ a, a = mayB s c (k &&& 1) := ⟨_, rfl⟩
    obtain ⟨a2, ha2⟩ : ∃ a, a = mayB s c (k &&& 2) := ⟨_, rfl⟩
    obtain ⟨a4, ha4⟩ : ∃ a, a = mayB s c (k &&& 4) := ⟨_, rfl⟩
    obtain ⟨am, ham⟩ : ∃ a, a = mayB s (moreC c D) k := ⟨_, rfl⟩
    rw [← ha] at HR hE hG
    rw [← ha1] at HR1 hE
    rw [← ha2] at HR2 hE
    rw [← ha4] at HR4 hE
    rw [← ham] at hmore hG
    simp only [encS] at hmore
    have HMORE := Lib.hid hmore
    clear hmore
    obtain ⟨n1, n2, n4⟩ := and_nat k hk8
    have HN1 := Lib.hid n1
    have HN2 := Lib.hid n2
    have HN4 := Lib.hid n4
    clear hz hc hf ha ha1 ha2 ha4 ham n1 n2 n4
    have hcase : (a = true ∧ am = true ∧ a1 = true ∧ a2 = true ∧ a4 = true) ∨ (a = false ∧ a1 = false ∧ a2 = false ∧ a4 = false) ∨ (a = false ∧ a1 = true ∧ a2 = false ∧ a4 = false) ∨ (a = false ∧ a1 = false ∧ a2 = true ∧ a4 = false) ∨ (a = false ∧ a1 = true ∧ a2 = true ∧ a4 = false) ∨ (a = false ∧ a1 = false ∧ a2 = false ∧ a4 = true) ∨ (a = false ∧ a1 = true ∧ a2 = false ∧ a4 = true) ∨ (a = false ∧ a1 = false ∧ a2 = true ∧ a4 = true) := by
      revert hE hG
      cases a <;> cases a1 <;> cases a2 <;> cases a4 <;> cases am <;> simp
    clear hE hG
    rcases hcase with ⟨rfl, rfl, rfl, rfl, rfl⟩ | ⟨rfl, rfl, rfl, rfl⟩ | ⟨rfl, rfl, rfl, rfl⟩ | ⟨rfl, rfl, rfl, rfl⟩ | ⟨rfl, rfl, rfl, rfl⟩ | ⟨rfl, rfl, rfl, rfl⟩ | ⟨rfl, rfl, rfl, rfl⟩ | ⟨rfl, rfl, rfl, rfl⟩

    all_goals
      go_enter Try.func5, Try.ntmps5
      go_wp2_with fail
      refine (modes_any _).mono ?_
      rintro e w1 ⟨rfl, hb1⟩
      have hS1 := HS0.out.keep hb1
      have hC1 := HC0.out.keep hb1
      have fz1 := Lib.hid ((hb1.frozen (p := ⟨w.heap.size + 1, 3, none⟩) HC0.out.1).trans HFZ.out)
      have hB1 := HA.out.trans (hb1.mono HA.out.size)
      clear hb1
      go_wp2_with fail
      refine (within_any want 8 _ (by decide) (by decide)).mono ?_
      rintro e w2 ⟨rfl, rfl⟩
      rw [HKK.out]
      have s0 := hS1.2 0 _ rfl
      have s1 := hS1.2 1 _ rfl
      have s2 := hS1.2 2 _ rfl
      have s3 := hS1.2 3 _ rfl
      have s4 := hS1.2 4 _ rfl
      have s5 := hS1.2 5 _ rfl
      have c0 := hC1.2 0 _ rfl
      have c1 := hC1.2 1 _ rfl
      have c2 := hC1.2 2 _ rfl
      have c3 := hC1.2 3 _ rfl
      have c4 := hC1.2 4 _ rfl
      have c5 := hC1.2 5 _ rfl
      go_wp2_with fail
      refine (HMAY.out k _ hB1).mono ?_
      rintro e w2 ⟨rfl, hb2⟩
      rw [HR.out]
      have hS2 := hS1.keep hb2
      have hC2 := hC1.keep hb2
      have fz2 := Lib.hid ((hb2.frozen (p := ⟨w.heap.size + 1, 3, none⟩) hC1.1).trans fz1.out)
      have hB2 := hB1.trans (hb2.mono hB1.size)
      clear hb2 s0 s1 s2 s3 s4 s5 c0 c1 c2 c3 c4 c5 hS1 hC1 hB1
      have hL3 : Has (w2.alloc (.cells #[.int .i64 1, .int .i64 2, .int .i64 4] 3)) w2.heap.size [.int .i64 1, .int .i64 2, .int .i64 4] := has_new w2 _ 3
      have hS3 := hS2.alloc (.cells #[.int .i64 1, .int .i64 2, .int .i64 4] 3)
      have hC3 := hC2.alloc (.cells #[.int .i64 1, .int .i64 2, .int .i64 4] 3)
      have hB3 := hB2.alloc hB2.size (.cells #[.int .i64 1, .int .i64 2, .int .i64 4] 3)
      have fz3 := Lib.hid (((Go.Joins.below_alloc1 w2 (.cells #[.int .i64 1, .int .i64 2, .int .i64 4] 3)).frozen (p := ⟨w.heap.size + 1, 3, none⟩) hC2.1).trans fz2.out)
      clear hS2 hC2 hB2
      go_wp2_with fail
      refine wp_loop_rounds 4 ?_
      have s0 := hS3.2 0 _ rfl
      have s1 := hS3.2 1 _ rfl
      have s2 := hS3.2 2 _ rfl
      have s3 := hS3.2 3 _ rfl
      have s4 := hS3.2 4 _ rfl
      have s5 := hS3.2 5 _ rfl
      have c0 := hC3.2 0 _ rfl
      have c1 := hC3.2 1 _ rfl
      have c2 := hC3.2 2 _ rfl
      have c3 := hC3.2 3 _ rfl
      have c4 := hC3.2 4 _ rfl
      have c5 := hC3.2 5 _ rfl
      have l0 := hL3.2 0 _ rfl
      have l1 := hL3.2 1 _ rfl
      have l2 := hL3.2 2 _ rfl
      rw [rounds_succ]
      go_wp2_with fail
      refine (HMAY.out (bits .and .i64 (k : Int) 1) _ hB3).mono ?_
      rintro e w4 ⟨rfl, hb4⟩
      rw [HN1.out, HR1.out]
      have hS4 := hS3.keep hb4
      have hC4 := hC3.keep hb4
      have fz4 := Lib.hid ((hb4.frozen (p := ⟨w.heap.size + 1, 3, none⟩) hC3.1).trans fz3.out)
      have hL4 := hL3.keep hb4
      have hB4 := hB3.trans (hb4.mono hB3.size)
      clear hb4 s0 s1 s2 s3 s4 s5 c0 c1 c2 c3 c4 c5 l0 l1 l2 hS3 hC3 hL3 hB3
      go_wp2_with fail
      have s0 := hS4.2 0 _ rfl
      have s1 := hS4.2 1 _ rfl
      have s2 := hS4.2 2 _ rfl
      have s3 := hS4.2 3 _ rfl
      have s4 := hS4.2 4 _ rfl
      have s5 := hS4.2 5 _ rfl
      have c0 := hC4.2 0 _ rfl
      have c1 := hC4.2 1 _ rfl
      have c2 := hC4.2 2 _ rfl
      have c3 := hC4.2 3 _ rfl
      have c4 := hC4.2 4 _ rfl
      have c5 := hC4.2 5 _ rfl
      have l0 := hL4.2 0 _ rfl
      have l1 := hL4.2 1 _ rfl
      have l2 := hL4.2 2 _ rfl
      rw [rounds_succ]
      go_wp2_with fail
      refine (HMAY.out (bits .and .i64 (k : Int) 2) _ hB4).mono ?_
      rintro e w5 ⟨rfl, hb5⟩
      rw [HN2.out, HR2.out]
      have hS5 := hS4.keep hb5
      have hC5 := hC4.keep hb5
      have fz5 := Lib.hid ((hb5.frozen (p := ⟨w.heap.size + 1, 3, none⟩) hC4.1).trans fz4.out)
      have hL5 := hL4.keep hb5
      have hB5 := hB4.trans (hb5.mono hB4.size)
      clear hb5 s0 s1 s2 s3 s4 s5 c0 c1 c2 c3 c4 c5 l0 l1 l2 hS4 hC4 hL4 hB4
      go_wp2_with fail
      have s0 := hS5.2 0 _ rfl
      have s1 := hS5.2 1 _ rfl
      have s2 := hS5.2 2 _ rfl
      have s3 := hS5.2 3 _ rfl
      have s4 := hS5.2 4 _ rfl
      have s5 := hS5.2 5 _ rfl
      have c0 := hC5.2 0 _ rfl
      have c1 := hC5.2 1 _ rfl
      have c2 := hC5.2 2 _ rfl
      have c3 := hC5.2 3 _ rfl
      have c4 := hC5.2 4 _ rfl
      have c5 := hC5.2 5 _ rfl
      have l0 := hL5.2 0 _ rfl
      have l1 := hL5.2 1 _ rfl
      have l2 := hL5.2 2 _ rfl
      rw [rounds_succ]
      go_wp2_with fail
      refine (HMAY.out (bits .and .i64 (k : Int) 4) _ hB5).mono ?_
      rintro e w6 ⟨rfl, hb6⟩
      rw [HN4.out, HR4.out]
      have hS6 := hS5.keep hb6
      have hC6 := hC5.keep hb6
      have fz6 := Lib.hid ((hb6.frozen (p := ⟨w.heap.size + 1, 3, none⟩) hC5.1).trans fz5.out)
      have hL6 := hL5.keep hb6
      have hB6 := hB5.trans (hb6.mono hB5.size)
      clear hb6 s0 s1 s2 s3 s4 s5 c0 c1 c2 c3 c4 c5 l0 l1 l2 hS5 hC5 hL5 hB5
      go_wp2_with fail
      rw [rounds_succ]
      have s0 := hS6.2 0 _ rfl
      have s1 := hS6.2 1 _ rfl
      have s2 := hS6.2 2 _ rfl
      have s3 := hS6.2 3 _ rfl
      have s4 := hS6.2 4 _ rfl
      have s5 := hS6.2 5 _ rfl
      have c0 := hC6.2 0 _ rfl
      have c1 := hC6.2 1 _ rfl
      have c2 := hC6.2 2 _ rfl
      have c3 := hC6.2 3 _ rfl
      have c4 := hC6.2 4 _ rfl
      have c5 := hC6.2 5 _ rfl
      have l0 := hL6.2 0 _ rfl
      have l1 := hL6.2 1 _ rfl
      have l2 := hL6.2 2 _ rfl
      go_wp2_with fail
      have fz := fz6.out
      go_region_with (go_at_call 18; refine (within_any more 128 _ (by decide) (by decide)).mono ?_; rintro e w9 ⟨rfl, rfl⟩; rw [HDD.out])
      all_goals
        have hle : w.heap.size ≤ w.heap.size + 1 := Nat.le_succ _
        go_wp2_with fail
        refine (HMORE.out _ (by first | exact (hB6.setCell (p := ⟨w.heap.size + 1, 3, none⟩) hle _).drew | exact hB6.drew.setCell (p := ⟨w.heap.size + 1, 3, none⟩) hle _)).mono ?_
        rintro e w8 ⟨rfl, hb8⟩
        have hBe : Below w.heap.size w w8 := Below.trans (by first | exact (hB6.setCell (p := ⟨w.heap.size + 1, 3, none⟩) hle _).drew | exact hB6.drew.setCell (p := ⟨w.heap.size + 1, 3, none⟩) hle _) (hb8.mono (by have := hB6.size; simp; omega))
        clear hb8
        go_wp2
        go_ret
        exact ⟨rfl, hBe⟩
  · have hne : ((mayR s c k).2 != 0) = true := by simp [hz]
    have hR1 := mayR_bad hz
    obtain ⟨r, hr⟩ : ∃ r, r = mayR s c k := ⟨_, rfl⟩
    rw [← hr] at hne hR1
    obtain ⟨r1, r2⟩ := r
    simp only at hne hR1
    subst hR1
    have HR := Lib.hid hr.symm
    clear hz hr
    go_enter Try.func5, Try.ntmps5
    go_wp2_with fail
    refine (modes_any _).mono ?_
    rintro e w1 ⟨rfl, hb1⟩
    have hS1 := HS0.out.keep hb1
    have hC1 := HC0.out.keep hb1
    have hB1 := HA.out.trans (hb1.mono HA.out.size)
    clear hb1
    go_wp2_with fail
    refine (within_any want 8 _ (by decide) (by decide)).mono ?_
    rintro e w2 ⟨rfl, rfl⟩
    rw [HKK.out]
    have s0 := hS1.2 0 _ rfl
    have s1 := hS1.2 1 _ rfl
    have s2 := hS1.2 2 _ rfl
    have s3 := hS1.2 3 _ rfl
    have s4 := hS1.2 4 _ rfl
    have s5 := hS1.2 5 _ rfl
    have c0 := hC1.2 0 _ rfl
    have c1 := hC1.2 1 _ rfl
    have c2 := hC1.2 2 _ rfl
    have c3 := hC1.2 3 _ rfl
    have c4 := hC1.2 4 _ rfl
    have c5 := hC1.2 5 _ rfl
    go_wp2_with fail
    refine (HMAY.out k _ hB1).mono ?_
    rintro e w2 ⟨rfl, hb2⟩
    rw [HR.out]
    have hB2 := hB1.trans (hb2.mono hB1.size)
    clear hb2 s0 s1 s2 s3 s4 s5 c0 c1 c2 c3 c4 c5 hS1 hC1 hB1
    go_wp2
    go_ret
    exact ⟨rfl, hB2⟩
end Go.Proofs.Ytddfgdodpjmjfaa.CredLaw
