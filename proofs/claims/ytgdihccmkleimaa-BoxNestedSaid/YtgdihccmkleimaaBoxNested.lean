/- The walk of ringkeep5.BoxNested. -/
import Derived.Test.YtgdihccmkleimaaBoxNestWalk
namespace Go.Proofs.Ytgdihccmkleimaa.BoxLaw
open Go.RowKit

theorem nest_is {w : World} {v0 v1 : Value} {outer inner : List Rg} (hO : IsL w v0 outer) (hI : IsL w v1 inner) :
    Calls Try.prog 21 #[v0, v1] w (NestPost outer inner w) := by
  obtain ⟨a, cap, rfl, hl, h⟩ := hI
  rcases h with rfl | ⟨b, off, rfl, hL⟩
  · have HO := Lib.hid hO
    clear hO
    by_cases hco : chk outer = 0
    · have hone : (chk outer != 0) = false := by simp [hco]
      have HCO := Lib.hid hco
      clear hco
      go_enter Try.func21, Try.ntmps21
      go_wp2_with fail
      refine (check_is HO.out).mono ?_
      rintro e w1 ⟨rfl, hb1⟩
      go_wp2_with fail
      refine (check_none _ _ _).mono ?_
      rintro e w2 ⟨rfl, hb2⟩
      go_wp2
      refine wp_loop_rounds 1 ?_
      rw [rounds_succ]
      go_wp2
      go_ret2
      exact ⟨_, 0, rfl, hb1.trans (hb2.mono hb1.size), .inr ⟨rfl, HCO.out, rfl, [], by simp, ninv_start _ _, ⟨none, 0, rfl, Nat.le_refl _, .inl rfl⟩⟩⟩
    · have hone : (chk outer != 0) = true := by simp [hco]
      have HCO := Lib.hid hco
      clear hco
      go_enter Try.func21, Try.ntmps21
      go_wp2_with fail
      refine (check_is HO.out).mono ?_
      rintro e w1 ⟨rfl, hb1⟩
      go_wp2
      go_ret2
      exact nestPost_bad HCO.out hb1
  · exact nest_some b off cap outer inner v0 w hO hl hL

set_option maxHeartbeats 400000 in
theorem boxnested_any {w : World} {v0 v1 : Value} {outer inner : List Rg} (x : Int) (hO : IsL w v0 outer) (hI : IsL w v1 inner) :
    Calls Try.prog 5 #[v0, v1, .int .i64 x] w fun e w' => e = .returned (.bool true) ∧ Below w.heap.size w w' := by
  have HO := Lib.hid hO
  have HI := Lib.hid hI
  clear hO hI
  go_enter Try.func5, Try.ntmps5
  go_wp2_with fail
  refine (boxes_any _).mono ?_
  rintro e w1 ⟨rfl, hb1⟩
  go_wp2_with fail
  refine (nest_is (HO.out.below hb1) (HI.out.below hb1)).mono ?_
  rintro e w2 ⟨v, en, rfl, hb2, hcase⟩
  have hb12 := hb1.trans (hb2.mono hb1.size)
  clear hb2
  rcases hcase with ⟨hne, rfl⟩ | ⟨rfl, hco, hci, segs, h4, hinv, hS⟩
  · have he : (en != 0) = true := by simpa using hne
    clear hne
    go_wp2
    go_ret
    exact ⟨rfl, hb12⟩
  · have hlaw := nest_law hco hci h4 hinv x
    obtain ⟨ri, hri⟩ : ∃ q, q = toR inner x := ⟨_, rfl⟩
    obtain ⟨rs, hrs⟩ : ∃ q, q = toR segs x := ⟨_, rfl⟩
    rw [← hri, ← hrs] at hlaw
    obtain ⟨ro, hro⟩ : ∃ q, q = toR outer ri.1 := ⟨_, rfl⟩
    rw [← hro] at hlaw
    obtain ⟨hchk, hlaw⟩ := hlaw
    have A := Lib.hid hri
    have B := Lib.hid hrs
    have C := Lib.hid hro
    have D := Lib.hid hchk
    have HS := Lib.hid hS
    clear hri hrs hro hchk hS hco hci h4 hinv
    obtain ⟨y, g⟩ := ri
    obtain ⟨x', f⟩ := rs
    obtain ⟨z, h⟩ := ro
    simp only at hlaw
    rcases hlaw with ⟨q1, q2, q3⟩ | ⟨q1, q2, q3, q4⟩
    · subst q2 q3
      have hg : (f != 0) = true := by simpa using q1
      clear q1
      go_wp2_with fail
      refine (to_is _ HS.out).mono ?_
      rintro e w3 ⟨rfl, hb3⟩
      rw [← B.out]
      have hb123 := hb12.trans (hb3.mono hb12.size)
      go_wp2_with fail
      refine (to_is _ (HI.out.below hb123)).mono ?_
      rintro e w4 ⟨rfl, hb4⟩
      rw [← A.out]
      go_wp2
      go_ret
      exact ⟨rfl, hb123.trans (hb4.mono hb123.size)⟩
    · subst q1 q2 q3 q4
      go_wp2_with fail
      refine (to_is _ HS.out).mono ?_
      rintro e w3 ⟨rfl, hb3⟩
      rw [← B.out]
      have hb123 := hb12.trans (hb3.mono hb12.size)
      go_wp2_with fail
      refine (to_is _ (HI.out.below hb123)).mono ?_
      rintro e w4 ⟨rfl, hb4⟩
      rw [← A.out]
      have hb1234 := hb123.trans (hb4.mono hb123.size)
      go_wp2_with fail
      refine (to_is _ (HO.out.below hb1234)).mono ?_
      rintro e w5 ⟨rfl, hb5⟩
      rw [← C.out]
      have hb12345 := hb1234.trans (hb5.mono hb1234.size)
      have hS5 := ((HS.out.below hb3).below hb4).below hb5
      have HS5 := Lib.hid hS5
      clear hS5
      go_wp2_with fail
      refine (check_is HS5.out).mono ?_
      rintro e w6 ⟨rfl, hb6⟩
      rw [D.out]
      go_wp2
      go_ret
      exact ⟨rfl, hb12345.trans (hb6.mono hb12345.size)⟩
end Go.Proofs.Ytgdihccmkleimaa.BoxLaw
