/- The walk of code.Decode. -/
import Derived.Test.YtopadiofanaaiaaCodeWalk
import Derived.Deep.RegionHeld3
import Derived.BigQuiet
namespace Go.Proofs.Ytopadiofanaaiaa.CodeLaw
open Go.RowKit
set_option linter.unusedVariables false

abbrev insV (i : Ins) : Value := .agg #[.int .i64 i.op, .int .i64 i.a, .int .i64 i.b, .int .i64 i.c]
theorem encI_is (i : Ins) (w : World) : Calls Try.prog 27 #[insV i] w fun e w' => e = .returned (.tuple #[.int .u32 (encI i).1, .int .i64 (encI i).2]) ∧ Below w.heap.size w w' := enc_is i.op i.a i.b i.c w
theorem wrap_small {n : Int} (h0 : -32768 ≤ n) (h1 : n < 4294967296) : wrap64 n = n := by
  unfold wrap64; omega
theorem i16_wrap (n : Int) : IntKind.i16.wrap n = (n + 32768) % 65536 - 32768 := by
  simp [IntKind.wrap, IntKind.bits, IntKind.signed]
  split <;> omega

set_option maxRecDepth 100000 in
set_option maxHeartbeats 4000000 in
theorem dec_is (x : Int) (w : World) (h0 : 0 ≤ x) (h1 : x < 4294967296) :
    Calls Try.prog 26 #[.int .u32 x] w fun e w' => e = .returned (.tuple #[insV (decR x).1, .int .i64 (decR x).2]) ∧ Below w.heap.size w w' := by
  obtain ⟨o, ho⟩ : ∃ o, x / 16777216 = o := ⟨_, rfl⟩
  obtain ⟨a, ha⟩ : ∃ o, x / 1048576 % 16 = o := ⟨_, rfl⟩
  obtain ⟨b, hb⟩ : ∃ o, x / 65536 % 16 = o := ⟨_, rfl⟩
  obtain ⟨c, hc⟩ : ∃ o, fC x = o := ⟨_, rfl⟩
  have hf : fields x = ⟨o, a, b, c⟩ := by rw [fields, ho, ha, hb, hc]
  have e1 : wrap64 (bits .and .u32 (x / 1048576) 15) = a := by
    rw [show bits .and .u32 (x / 1048576) 15 = a from (fA_is h0 h1).trans ha]; exact wrap_small (by omega) (by omega)
  have e2 : wrap64 (bits .and .u32 (x / 65536) 15) = b := by
    rw [show bits .and .u32 (x / 65536) 15 = b from (fB_is h0 h1).trans hb]; exact wrap_small (by omega) (by omega)
  have e3 : wrap64 (IntKind.i16.wrap x) = c := by
    rw [show IntKind.i16.wrap x = c from (i16_wrap x).trans hc]; unfold fC at hc; exact wrap_small (by omega) (by omega)
  have hA : Below w.heap.size w ((w.alloc (.cells #[.int .i64 0, .int .i64 0, .int .i64 0, .int .i64 0] 51)).alloc (.cells #[.int .i64 o, .int .i64 a, .int .i64 b, .int .i64 c] 51)) := Go.Joins.below_alloc2 _ _ _
  have hN : Has ((w.alloc (.cells #[.int .i64 0, .int .i64 0, .int .i64 0, .int .i64 0] 51)).alloc (.cells #[.int .i64 o, .int .i64 a, .int .i64 b, .int .i64 c] 51)) (w.heap.size + 1) [.int .i64 o, .int .i64 a, .int .i64 b, .int .i64 c] := by
    have := has_new (w.alloc (.cells #[.int .i64 0, .int .i64 0, .int .i64 0, .int .i64 0] 51)) [.int .i64 o, .int .i64 a, .int .i64 b, .int .i64 c] 51
    simpa using this
  have hM : Has ((w.alloc (.cells #[.int .i64 0, .int .i64 0, .int .i64 0, .int .i64 0] 51)).alloc (.cells #[.int .i64 o, .int .i64 a, .int .i64 b, .int .i64 c] 51)) w.heap.size [.int .i64 0, .int .i64 0, .int .i64 0, .int .i64 0] := (has_new w [.int .i64 0, .int .i64 0, .int .i64 0, .int .i64 0] 51).alloc _
  have hz : ∀ i, ((w.alloc (.cells #[.int .i64 0, .int .i64 0, .int .i64 0, .int .i64 0] 51)).alloc (.cells #[.int .i64 o, .int .i64 a, .int .i64 b, .int .i64 c] 51)).frozen? ⟨w.heap.size, i, none⟩ = false := fun i => by simp
  obtain ⟨y, hy⟩ : ∃ y, y = (encR o a b c).1 := ⟨_, rfl⟩
  obtain ⟨z, hz2⟩ : ∃ z, z = (encR o a b c).2 := ⟨_, rfl⟩
  have hcall := enc_is o a b c ((w.alloc (.cells #[.int .i64 0, .int .i64 0, .int .i64 0, .int .i64 0] 51)).alloc (.cells #[.int .i64 o, .int .i64 a, .int .i64 b, .int .i64 c] 51))
  rw [← hy, ← hz2] at hcall
  have hd : decR x = if z = 0 ∧ y = x then (⟨o, a, b, c⟩, 0) else (⟨0, 0, 0, 0⟩, 3) := by
    unfold decR decOk encI
    rw [hf]
    simp only
    rw [← hy, ← hz2]
    by_cases hh : z = 0 ∧ y = x
    · rw [if_pos hh, if_pos (by simp [hh])]
    · rw [if_neg hh, if_neg (by simpa using hh)]
  have HO := Lib.hid ho
  have H1 := Lib.hid e1
  have H2 := Lib.hid e2
  have H3 := Lib.hid e3
  have HC := Lib.hid hcall
  have HD := Lib.hid hd
  have HA := Lib.hid hA
  have HN := Lib.hid hN
  have HM := Lib.hid hM
  have HZ := Lib.hid hz
  clear ho ha hb hc hf e1 e2 e3 hcall hd hy hz2 hA hN hM hz
  have hcase : (z = 0 ∧ (y == x) = true ∧ Hid (y = x)) ∨ (z = 0 ∧ (y == x) = false ∧ Hid (y ≠ x)) ∨ ((z == 0) = false ∧ Hid (z ≠ 0)) := by
    by_cases hz : z = 0
    · by_cases hx : y = x
      · exact .inl ⟨hz, by simp [hx], hx⟩
      · exact .inr (.inl ⟨hz, by simp [hx], hx⟩)
    · exact .inr (.inr ⟨by simp [hz], hz⟩)
  go_enter Try.func26, Try.ntmps26
  go_wp2_with fail
  rw [HO.out, H1.out, H2.out, H3.out]
  refine HC.out.mono ?_
  rintro e w1 ⟨rfl, hb1⟩
  have hN1 := HN.out.keep hb1
  have hM1 := HM.out.keep hb1
  have hB1 := HA.out.trans (hb1.mono HA.out.size)
  have hz1 := fun i => (hb1.frozen (p := ⟨w.heap.size, i, none⟩) HM.out.1).trans (HZ.out i)
  have z0 := hz1 0
  have z1 := hz1 1
  have z2 := hz1 2
  have z3 := hz1 3
  have n0 := hN1.2 0 _ rfl
  have n1 := hN1.2 1 _ rfl
  have n2 := hN1.2 2 _ rfl
  have n3 := hN1.2 3 _ rfl
  have m0 := hM1.2 0 _ rfl
  have m1 := hM1.2 1 _ rfl
  have m2 := hM1.2 2 _ rfl
  have m3 := hM1.2 3 _ rfl
  have HB1 := Lib.hid hB1
  clear hN1 hM1 hz1 hb1 hB1
  rcases hcase with ⟨rfl, hyx, HX⟩ | ⟨rfl, hyx, HX⟩ | ⟨hz, HX⟩
  · have HE := Lib.hid (HD.out.trans (if_pos ⟨rfl, HX.out⟩))
    go_wp2
    refine bodyPost_ret (v := .tuple #[insV ⟨o, a, b, c⟩, .int .i64 0]) (by simp [results, Try.results26, go_sem, m0, m1, m2, m3]) rfl ⟨by rw [HE.out], ?_⟩
    repeat (first | refine Below.setCell ?_ (by simp <;> omega) _ | refine Below.drew ?_)
    exact HB1.out
  · have HE := Lib.hid (HD.out.trans (if_neg fun h => HX.out h.2))
    go_wp2
    refine bodyPost_ret (v := .tuple #[insV ⟨0, 0, 0, 0⟩, .int .i64 3]) (by simp [results, Try.results26, go_sem, m0, m1, m2, m3]) rfl ⟨by rw [HE.out], ?_⟩
    repeat (first | refine Below.setCell ?_ (by simp <;> omega) _ | refine Below.drew ?_)
    exact HB1.out
  · have HE := Lib.hid (HD.out.trans (if_neg fun h => HX.out h.1))
    go_wp2
    refine bodyPost_ret (v := .tuple #[insV ⟨0, 0, 0, 0⟩, .int .i64 3]) (by simp [results, Try.results26, go_sem, m0, m1, m2, m3]) rfl ⟨by rw [HE.out], ?_⟩
    repeat (first | refine Below.setCell ?_ (by simp <;> omega) _ | refine Below.drew ?_)
    exact HB1.out
end Go.Proofs.Ytopadiofanaaiaa.CodeLaw
