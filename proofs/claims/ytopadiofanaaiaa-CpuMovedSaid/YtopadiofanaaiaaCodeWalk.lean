/- The walk of code.Encode. -/
import Derived.Test.YtopadiofanaaiaaCodeRow
import Derived.Test.YtopadiofanaaiaaCodeEnc
import Derived.Test.YtopadiofanaaiaaTab
namespace Go.Proofs.Ytopadiofanaaiaa.CodeLaw
open Go.RowKit
set_option linter.unusedVariables false

set_option maxRecDepth 100000 in
set_option maxHeartbeats 8000000 in
theorem enc_is (op a b c : Int) (w : World) :
    Calls Try.prog 27 #[.agg #[.int .i64 op, .int .i64 a, .int .i64 b, .int .i64 c]] w fun e w' => e = .returned (.tuple #[.int .u32 (encR op a b c).1, .int .i64 (encR op a b c).2]) ∧ Below w.heap.size w w' := by
  have hr := row_is op (w.alloc (.cells #[.int .i64 op, .int .i64 a, .int .i64 b, .int .i64 c] 51))
  have HB := Lib.hid (show Below w.heap.size w (w.alloc (.cells #[.int .i64 op, .int .i64 a, .int .i64 b, .int .i64 c] 51)) from Go.Joins.below_alloc1 _ _)
  by_cases hk : 1 ≤ op ∧ op ≤ 26
  · have hq := name_some hk
    have HK := Lib.hid hk
    obtain ⟨k1, k2⟩ := hk
    obtain ⟨s, hs⟩ : ∃ s, s = (rowS op).1 := ⟨_, rfl⟩
    obtain ⟨f, hf⟩ : ∃ f, f = (rowS op).2 := ⟨_, rfl⟩
    rw [← hs] at hq hr
    rw [← hf] at hr
    have HR := Lib.hid hr
    have HF := Lib.hid (show f = fldS op from hf)
    clear hr hs hf
    by_cases hi : inF a b c
    · have HI := Lib.hid hi
      obtain ⟨a0, a1, b0, b1, c0, c1⟩ := hi
      have hcase : ((Hid (okF f a b c = false) ∧
          ((((bits .and .i64 f 1 == 0) = true ∧ (a != 0) = true)) ∨
           (((bits .and .i64 f 1 == 0) = false ∨ ((bits .and .i64 f 1 == 0) = true ∧ (a != 0) = false)) ∧ (bits .and .i64 f 2 == 0) = true ∧ (b != 0) = true) ∨
           (((bits .and .i64 f 1 == 0) = false ∨ ((bits .and .i64 f 1 == 0) = true ∧ (a != 0) = false)) ∧ ((bits .and .i64 f 2 == 0) = false ∨ ((bits .and .i64 f 2 == 0) = true ∧ (b != 0) = false)) ∧ (bits .and .i64 f 4 == 0) = true ∧ (c != 0) = true))) ∨
          (Hid (okF f a b c = true) ∧ ((bits .and .i64 f 1 == 0) = false ∨ ((bits .and .i64 f 1 == 0) = true ∧ (a != 0) = false)) ∧ ((bits .and .i64 f 2 == 0) = false ∨ ((bits .and .i64 f 2 == 0) = true ∧ (b != 0) = false)) ∧ ((bits .and .i64 f 4 == 0) = false ∨ ((bits .and .i64 f 4 == 0) = true ∧ (c != 0) = false)))) := by
        have hd : ∀ z, okF f a b c = z → Hid (okF f a b c = z) := fun z h => Lib.hid h
        have ho : okF f a b c = !((bits .and .i64 f 1 == 0 && a != 0) || (bits .and .i64 f 2 == 0 && b != 0) || (bits .and .i64 f 4 == 0 && c != 0)) := rfl
        generalize (bits .and .i64 f 1 == 0) = x1 at *
        generalize (bits .and .i64 f 2 == 0) = x2 at *
        generalize (bits .and .i64 f 4 == 0) = x3 at *
        generalize (a != 0) = y1 at *
        generalize (b != 0) = y2 at *
        generalize (c != 0) = y3 at *
        generalize okF f a b c = o at *
        clear HR HF HI HK HB
        cases x1 <;> cases x2 <;> cases x3 <;> cases y1 <;> cases y2 <;> cases y3 <;> simp at ho <;> subst ho <;> simp <;> first | exact Lib.hid trivial | exact hd _ rfl
      rcases hcase with ⟨HO, hcase⟩ | ⟨HO, g1, g2, g3⟩
      · have HE := Lib.hid (encR_form HK.out HI.out (by rw [← HF.out, HO.out]; simp))
        rcases hcase with ⟨t1, t2⟩ | ⟨g1, t1, t2⟩ | ⟨g1, g2, t1, t2⟩
        · go_enter Try.func27, Try.ntmps27
          go_wp2_with fail
          refine HR.out.mono ?_
          rintro e w1 ⟨rfl, rfl⟩
          go_wp2
          go_ret2
          exact ⟨by rw [HE.out]; rfl, HB.out⟩
        · rcases g1 with g1 | ⟨g1, g1'⟩
          all_goals
            go_enter Try.func27, Try.ntmps27
            go_wp2_with fail
            refine HR.out.mono ?_
            rintro e w1 ⟨rfl, rfl⟩
            go_wp2
            go_ret2
            exact ⟨by rw [HE.out]; rfl, HB.out⟩
        · rcases g1 with g1 | ⟨g1, g1'⟩ <;> rcases g2 with g2 | ⟨g2, g2'⟩
          all_goals
            go_enter Try.func27, Try.ntmps27
            go_wp2_with fail
            refine HR.out.mono ?_
            rintro e w1 ⟨rfl, rfl⟩
            go_wp2
            go_ret2
            exact ⟨by rw [HE.out]; rfl, HB.out⟩
      · have HE := Lib.hid (encR_ok HK.out HI.out (by rw [← HF.out]; exact HO.out))
        rcases g1 with g1 | ⟨g1, g1'⟩ <;> rcases g2 with g2 | ⟨g2, g2'⟩ <;> rcases g3 with g3 | ⟨g3, g3'⟩
        all_goals
          go_enter Try.func27, Try.ntmps27
          go_wp2_with fail
          refine HR.out.mono ?_
          rintro e w1 ⟨rfl, rfl⟩
          go_wp2
          go_ret2
          exact ⟨by rw [HE.out]; rfl, HB.out⟩
    · have HE := Lib.hid (encR_out HK.out hi)
      have hcase : a < 0 ∨ (0 ≤ a ∧ 8 ≤ a) ∨ ((0 ≤ a ∧ a < 8) ∧ b < 0) ∨ ((0 ≤ a ∧ a < 8) ∧ 0 ≤ b ∧ 8 ≤ b) ∨ ((0 ≤ a ∧ a < 8) ∧ (0 ≤ b ∧ b < 8) ∧ c < -32768) ∨ ((0 ≤ a ∧ a < 8) ∧ (0 ≤ b ∧ b < 8) ∧ -32768 ≤ c ∧ 32767 < c) := by unfold inF at hi; omega
      clear hi
      rcases hcase with hh | hh | hh | hh | hh | hh
      all_goals
        go_enter Try.func27, Try.ntmps27
        go_wp2_with fail
        refine HR.out.mono ?_
        rintro e w1 ⟨rfl, rfl⟩
        go_wp2
        go_ret2
        exact ⟨by rw [HE.out]; rfl, HB.out⟩
  · have HE := Lib.hid (encR_none (a := a) (b := b) (c := c) hk)
    rw [rowS_none hk] at hr
    have HR := Lib.hid hr
    clear hr hk
    go_enter Try.func27, Try.ntmps27
    go_wp2_with fail
    refine HR.out.mono ?_
    rintro e w1 ⟨rfl, rfl⟩
    go_wp2
    go_ret2
    exact ⟨by rw [HE.out]; rfl, HB.out⟩
end Go.Proofs.Ytopadiofanaaiaa.CodeLaw
