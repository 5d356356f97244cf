/- The walks of ringkeep5.codes and ringkeep5.CodeBack. -/
import Derived.Test.YtddfgdodpjmjfaaCodeDec
namespace Go.Proofs.Ytddfgdodpjmjfaa.CodeLaw
open Go.RowKit
set_option linter.unusedVariables false

theorem two0 (w : World) (T : TypeId) : ∀ i, i < [(0 : Int), 0].length → (w.alloc (.cells #[.int .i64 0, .int .i64 0] T)).cell? ⟨w.heap.size, i, none⟩ = some (.int .i64 ([(0 : Int), 0].getD i 0)) := by
  intro i hi
  rw [cell_of_row _ _ _ _ _ _ (heap_alloc_new _ _)]
  have : i = 0 ∨ i = 1 := by simp at hi; omega
  rcases this with rfl | rfl <;> rfl

theorem two1 (w : World) (o : Obj) (T : TypeId) : ∀ i, i < [(0 : Int), 0].length → ((w.alloc o).alloc (.cells #[.int .i64 0, .int .i64 0] T)).cell? ⟨w.heap.size + 1, i, none⟩ = some (.int .i64 ([(0 : Int), 0].getD i 0)) := by
  intro i hi
  have h := two0 (w.alloc o) T i hi
  rw [show (w.alloc o).heap.size = w.heap.size + 1 from by simp] at h
  exact h
theorem enc_two (w : World) : Calls Try.prog 16 #[.agg #[.int .i64 2, .int .i64 1, .int .i64 0, .int .i64 (-2)]] w fun e w' => e = .returned (.tuple #[.int .u32 34668542, .int .i64 0]) ∧ Below w.heap.size w w' := by
  have h := enc_is 2 1 0 (-2) w
  have h1 : encR 2 1 0 (-2) = (34668542, 0) := by decide +kernel
  rw [h1] at h
  exact h
theorem dec_two {X : Int} (w : World) (hX : (X == 34668542) = true) : Calls Try.prog 17 #[.int .u32 X] w fun e w' => e = .returned (.tuple #[.agg #[.int .i64 2, .int .i64 1, .int .i64 0, .int .i64 (-2)], .int .i64 0]) ∧ Below w.heap.size w w' := by
  have hX : X = 34668542 := by simpa using hX
  have h := dec_is X w (by omega) (by omega)
  have h1 : decR X = (⟨2, 1, 0, -2⟩, 0) := by rw [hX]; decide +kernel
  rw [h1] at h
  exact h
set_option maxRecDepth 100000 in
set_option maxHeartbeats 400000 in
theorem codes_any (w : World) : Calls Try.prog 15 #[] w fun e w' => e = .returned (.bool true) ∧ Below w.heap.size w w' := by
  go_enter Try.func15, Try.ntmps15
  go_wp2_with fail
  refine (enc_two _).mono ?_
  rintro e w1 ⟨rfl, hb1⟩
  go_wp2_with fail
  refine (dec_two _ ?_).mono ?_
  · simp
  rintro e w2 ⟨rfl, hb2⟩
  have hB2 := hb1.trans (hb2.mono hb1.size)
  have HB2 := Lib.hid hB2
  clear hb1 hb2 hB2
  go_wp2_with fail
  refine (good_any _ _ [0, 0] _ (by simp) (two1 _ _ _)).mono ?_
  rintro e w3 ⟨rfl, rfl⟩
  rw [show ([(0 : Int), 0].all (· == 0)) = true from rfl]
  go_wp2
  go_ret
  exact ⟨rfl, (HB2.out.alloc HB2.out.size _).alloc (by have := HB2.out.size; simp; omega) _⟩

set_option maxRecDepth 100000 in
set_option maxHeartbeats 4000000 in
theorem codeback_any (i : Ins) (x : Int) (w : World) (h0 : 0 ≤ x) (h1 : x < 4294967296) :
    Calls Try.prog 3 #[insV i, .int .u32 x] w fun e w' => e = .returned (.bool true) ∧ Below w.heap.size w w' := by
  obtain ⟨op, a, b, c⟩ := i
  have hA : Below w.heap.size w (w.alloc (.cells #[.int .i64 op, .int .i64 a, .int .i64 b, .int .i64 c] 23)) := Go.Joins.below_alloc1 _ _
  have hN := has_new w [.int .i64 op, .int .i64 a, .int .i64 b, .int .i64 c] 23
  have HA := Lib.hid hA
  have HN := Lib.hid hN
  clear hA hN
  have hback := fun h => @back ⟨op, a, b, c⟩ h
  have hbk : ((encR op a b c).2 == 0) = false ∨ ((encR op a b c).2 = 0 ∧ Hid ((0 ≤ (encR op a b c).1 ∧ (encR op a b c).1 < 4294967296) ∧ decR (encR op a b c).1 = (⟨op, a, b, c⟩, 0))) := by
    by_cases h : (encR op a b c).2 = 0
    · exact .inr ⟨h, hback h⟩
    · exact .inl (by simp [h])
  clear hback
  have henc := fun w => enc_is op a b c w
  obtain ⟨y, hy⟩ : ∃ y, (encR op a b c).1 = y := ⟨_, rfl⟩
  obtain ⟨z, hz⟩ : ∃ z, (encR op a b c).2 = z := ⟨_, rfl⟩
  rw [hy, hz] at hbk
  simp only [hy, hz] at henc
  have HE := Lib.hid henc
  clear henc hy hz
  have hdx : (∃ o2 a2 b2 c2, Hid (decR x = (⟨o2, a2, b2, c2⟩, 0)) ∧ Hid (encR o2 a2 b2 c2 = (x, 0))) ∨ Hid (decR x = (⟨0, 0, 0, 0⟩, 3)) := by
    by_cases h : (decR x).2 = 0
    · refine .inl ⟨(decR x).1.op, (decR x).1.a, (decR x).1.b, (decR x).1.c, Prod.ext rfl h, forth h⟩
    · exact .inr (decR_bad h)
  have HX := Lib.hid (show 0 ≤ x ∧ x < 4294967296 from ⟨h0, h1⟩)
  rcases hbk with hz | ⟨rfl, HBK⟩
  · go_enter Try.func3, Try.ntmps3
    go_wp2_with fail
    refine (codes_any _).mono ?_
    rintro e w1 ⟨rfl, hb1⟩
    have hN1 := HN.out.keep hb1
    have hB1 := HA.out.trans (hb1.mono HA.out.size)
    have n0 := hN1.2 0 _ rfl
    have n1 := hN1.2 1 _ rfl
    have n2 := hN1.2 2 _ rfl
    have n3 := hN1.2 3 _ rfl
    have HB1 := Lib.hid hB1
    clear hb1 hN1 hB1
    go_wp2_with fail
    refine (HE.out _).mono ?_
    rintro e w2 ⟨rfl, hb2⟩
    have HB2 := Lib.hid (HB1.out.trans (hb2.mono HB1.out.size))
    clear hb2
    go_wp2_with fail
    refine (dec_is x _ HX.out.1 HX.out.2).mono ?_
    rintro e w3 ⟨rfl, hb3⟩
    have HB3 := Lib.hid (HB2.out.trans (hb3.mono HB2.out.size))
    clear hb3
    rcases hdx with ⟨o2, a2, b2, c2, HD, HE2⟩ | HD
    · rw [HD.out]
      go_wp2_with fail
      refine (enc_is o2 a2 b2 c2 _).mono ?_
      rintro e w4 ⟨rfl, hb4⟩
      rw [HE2.out]
      have hB4 := HB3.out.alloc HB3.out.size (.cells #[.int .i64 o2, .int .i64 a2, .int .i64 b2, .int .i64 c2] 23)
      have HB4 := Lib.hid (hB4.trans (hb4.mono hB4.size))
      clear hb4 hB4
      have hxx : (x == x) = true := by simp
      go_wp2
      go_ret
      exact ⟨rfl, HB4.out⟩
    · rw [HD.out]
      go_wp2
      go_ret
      exact ⟨rfl, HB3.out.alloc HB3.out.size _⟩
  · go_enter Try.func3, Try.ntmps3
    go_wp2_with fail
    refine (codes_any _).mono ?_
    rintro e w1 ⟨rfl, hb1⟩
    have hN1 := HN.out.keep hb1
    have hB1 := HA.out.trans (hb1.mono HA.out.size)
    have n0 := hN1.2 0 _ rfl
    have n1 := hN1.2 1 _ rfl
    have n2 := hN1.2 2 _ rfl
    have n3 := hN1.2 3 _ rfl
    have HN1 := Lib.hid hN1
    have HB1 := Lib.hid hB1
    clear hb1 hN1 hB1
    go_wp2_with fail
    refine (HE.out _).mono ?_
    rintro e w2 ⟨rfl, hb2⟩
    have HN2 := Lib.hid (HN1.out.keep hb2)
    have HB2 := Lib.hid (HB1.out.trans (hb2.mono HB1.out.size))
    clear hb2 n0 n1 n2 n3
    go_wp2_with fail
    refine (dec_is y _ HBK.out.1.1 HBK.out.1.2).mono ?_
    rintro e w3 ⟨rfl, hb3⟩
    rw [HBK.out.2]
    have hN3 := (HN2.out.keep hb3).alloc (.cells #[.int .i64 op, .int .i64 a, .int .i64 b, .int .i64 c] 23)
    have HB3 := Lib.hid (HB2.out.trans (hb3.mono HB2.out.size))
    have n0 := hN3.2 0 _ rfl
    have n1 := hN3.2 1 _ rfl
    have n2 := hN3.2 2 _ rfl
    have n3 := hN3.2 3 _ rfl
    clear hb3 hN3
    go_wp2_with fail
    refine (dec_is x _ HX.out.1 HX.out.2).mono ?_
    rintro e w4 ⟨rfl, hb4⟩
    have hB4 := HB3.out.alloc HB3.out.size (.cells #[.int .i64 op, .int .i64 a, .int .i64 b, .int .i64 c] 23)
    have HB4 := Lib.hid (hB4.trans (hb4.mono hB4.size))
    clear hb4 hB4 n0 n1 n2 n3
    rcases hdx with ⟨o2, a2, b2, c2, HD, HE2⟩ | HD
    · rw [HD.out]
      go_wp2_with fail
      refine (enc_is o2 a2 b2 c2 _).mono ?_
      rintro e w5 ⟨rfl, hb5⟩
      rw [HE2.out]
      have hB5 := HB4.out.alloc HB4.out.size (.cells #[.int .i64 o2, .int .i64 a2, .int .i64 b2, .int .i64 c2] 23)
      have HB5 := Lib.hid (hB5.trans (hb5.mono hB5.size))
      clear hb5 hB5
      have hxx : (x == x) = true := by simp
      go_wp2
      go_ret
      exact ⟨rfl, HB5.out⟩
    · rw [HD.out]
      go_wp2
      go_ret
      exact ⟨rfl, HB4.out.alloc HB4.out.size _⟩
end Go.Proofs.Ytddfgdodpjmjfaa.CodeLaw
