/- The law ringkeep5.CredJoins of its Go body: after joining a group, the credentials are in this group and in all previous ones; joining twice has no further effect. -/
import Derived.Test.YtjkephmfpoekgaaJoined
namespace Go.Proofs.Ytjkephmfpoekgaa.CredLaw
open Go.RowKit SortLaw
set_option linter.unusedVariables false
set_option linter.unusedSimpArgs false
attribute [local go_sem ↓] load44_eq store44_eq zero44 cellsC_of
attribute [local go_sem] store44_new load44_new
theorem join_again {w : World} {m : Value} {d : C} {a : Int} (hm : At (Value.int .i64) 0 w m d.xs) (h0 : 0 ≤ a) (h1 : a ≤ 99) (hz : chkC d = 0) (hk : bits .and .i64 d.caps 8 ≠ 0) (hi : inC d a = true) (n : Nat) (hn : d.xs.length = n) :
    Calls Try.prog 6 #[.agg (cellsC d m), .int .i64 a] w fun e w' => Below w.heap.size w w' ∧ ∃ a' k, e = .returned (.tuple #[.agg (cellsC d (.slice a' n k)), .int .i64 0]) ∧ At (Value.int .i64) 0 w' (.slice a' n k) d.xs := by
  subst hn
  refine (join_is hm h0 h1).mono ?_
  rintro e w' ⟨hb, ⟨d', a', k, ⟨-, -, hj⟩, rfl, hat⟩ | ⟨hn, -⟩⟩
  · rcases hj with ⟨-, rfl⟩ | ⟨hi2, -⟩
    · exact ⟨hb, a', k, rfl, hat⟩
    · rw [hi] at hi2; cases hi2
  · exact absurd ⟨hz, hk, .inl hi⟩ hn
theorem in_c {w : World} {m : Value} {c : C} (g : Int) (hm : At (Value.int .i64) 0 w m c.xs) (hc : chkC c = 0) (r : Bool) (hr : inC c g = r) :
    Calls Try.prog 8 #[.agg (cellsC c m), .int .i64 g] w fun e w' => e = .returned (.tuple #[.bool r, .int .i64 0]) ∧ Below w.heap.size w w' := by
  subst hr
  exact in_is g ⟨m, rfl, hm⟩ hc
theorem four0 (w0 : World) (o : Obj) : ∀ i, i < ([0, 0, 0, 0] : List Int).length → ((w0.alloc o).alloc (.cells #[.int .i64 0, .int .i64 0, .int .i64 0, .int .i64 0] 27)).cell? ⟨w0.heap.size + 1, i, none⟩ = some (.int .i64 (([0, 0, 0, 0] : List Int).getD i 0)) := by
  intro i hi
  have := cells_new (w0.alloc o) [.int .i64 0, .int .i64 0, .int .i64 0, .int .i64 0] 27
  rw [World.size_alloc] at this
  match i, hi with
  | 0, _ => exact this 0 _ rfl
  | 1, _ => exact this 1 _ rfl
  | 2, _ => exact this 2 _ rfl
  | 3, _ => exact this 3 _ rfl
set_option maxRecDepth 100000 in
set_option maxHeartbeats 1000000 in
theorem credjoins_any {w : World} {m : Value} {c : C} (hm : At (Value.int .i64) 0 w m c.xs) (a b : Int) : Calls Try.prog 3 #[.agg (cellsC c m), .int .i64 a, .int .i64 b] w fun e w' => e = .returned (.bool true) ∧ Below w.heap.size w w' := by
  have HM0 := Lib.hid (hm.keep (Go.Joins.below_alloc1 w (.cells (cellsC c m) 24)))
  have HR0 := Lib.hid (row_new w 24 (cellsC c m))
  have HA := Lib.hid (Go.Joins.below_alloc1 w (.cells (cellsC c m) 24))
  obtain ⟨A, hA⟩ : ∃ A, A = a % 100 := ⟨_, rfl⟩
  have HAA := Lib.hid hA
  have HAB := Lib.hid (show 0 ≤ A ∧ A ≤ 99 by omega)
  clear hm hA
  go_enter Try.func3, Try.ntmps3
  go_wp2_with fail
  refine (creds_is _).mono ?_
  rintro e w1 ⟨rfl, hb1⟩
  have HM1 := Lib.hid (HM0.out.keep hb1)
  have HR1 := Lib.hid (HR0.out.keep hb1)
  have HB1 := Lib.hid (HA.out.trans (hb1.mono HA.out.size))
  clear hb1 HM0 HR0 HA
  go_wp2_with fail
  refine (within_any a 100 _ (by decide) (by decide)).mono ?_
  rintro e w2 ⟨rfl, rfl⟩
  rw [← HAA.out]
  have hl := HR1.out.load44
  go_wp2_with fail
  refine (join_is HM1.out HAB.out.1 HAB.out.2).mono ?_
  rintro e w2 ⟨hb2, ⟨d, a2, k2, hj, rfl, hat⟩ | ⟨-, er, her, rfl⟩⟩
  · obtain ⟨n, hn⟩ : ∃ n, d.xs.length = n := ⟨_, rfl⟩
    have HN := Lib.hid hn
    have HJ := Lib.hid hj
    have HOK := Lib.hid (joined_ok HAB.out hj)
    rw [hn] at hat ⊢
    obtain ⟨icb, hicb⟩ : ∃ i, inC c b = i := ⟨_, rfl⟩
    obtain ⟨eab, heab⟩ : ∃ i, (A == b) = i := ⟨_, rfl⟩
    obtain ⟨idb, hidb⟩ : ∃ i, inC d b = i := ⟨_, rfl⟩
    have HE := Lib.hid (show idb = (icb || eab) by rw [← hidb, ← hicb, ← heab]; exact HOK.out.2.2.1 b)
    have HIC := Lib.hid hicb
    have HID := Lib.hid hidb
    have HEA := Lib.hid heab
    have HB2 := Lib.hid ((HB1.out.trans (hb2.mono HB1.out.size)).alloc (by have := HB1.out.size; have := hb2.size; omega) (.cells (cellsC d (.slice a2 n k2)) 24))
    have HD2 := Lib.hid (hat.keep (Go.Joins.below_alloc1 w2 (.cells (cellsC d (.slice a2 n k2)) 24)))
    have HC2 := Lib.hid ((HM1.out.keep hb2).keep (Go.Joins.below_alloc1 w2 (.cells (cellsC d (.slice a2 n k2)) 24)))
    have R3 := Lib.hid ((HR1.out.keep hb2).alloc (.cells (cellsC d (.slice a2 n k2)) 24))
    have R7 := Lib.hid (row_new w2 24 (cellsC d (.slice a2 n k2)))
    clear hb2 hat hl hj hn hicb hidb heab
    go_wp2_with fail
    generalize w2.heap.size = b7 at *
    generalize w2.alloc (.cells (cellsC d (.slice a2 n k2)) 24) = w3 at *
    refine (in_c A HD2.out HOK.out.1 true HOK.out.2.1).mono ?_
    rintro e w4 ⟨rfl, hb4⟩
    have HB4 := Lib.hid (HB2.out.trans (hb4.mono HB2.out.size))
    have HD4 := Lib.hid (HD2.out.keep hb4)
    have HC4 := Lib.hid (HC2.out.keep hb4)
    have R34 := Lib.hid (R3.out.keep hb4)
    have R74 := Lib.hid (R7.out.keep hb4)
    have hl3 := R34.out.load44
    clear hb4
    go_wp2_with fail
    refine (in_c b HC4.out HJ.out.1 icb HIC.out).mono ?_
    rintro e w5 ⟨rfl, hb5⟩
    have HB5 := Lib.hid (HB4.out.trans (hb5.mono HB4.out.size))
    have HD5 := Lib.hid (HD4.out.keep hb5)
    have R75 := Lib.hid (R74.out.keep hb5)
    have hl7 := R75.out.load44
    clear hb5 hl3
    go_wp2_with fail
    refine (in_c b HD5.out HOK.out.1 idb HID.out).mono ?_
    rintro e w6 ⟨rfl, hb6⟩
    have HB6 := Lib.hid (HB5.out.trans (hb6.mono HB5.out.size))
    have HD6 := Lib.hid (HD5.out.keep hb6)
    have R76 := Lib.hid (R75.out.keep hb6)
    clear hb6 hl7
    have hl7 := R76.out.load44
    go_wp2_with fail
    refine (join_again HD6.out HAB.out.1 HAB.out.2 HOK.out.1 (by rw [HOK.out.2.2.2]; exact HJ.out.2.1) HOK.out.2.1 n HN.out).mono ?_
    rintro e w7 ⟨hb7, a9, k9, rfl, hat9⟩
    have HB7 := Lib.hid ((HB6.out.trans (hb7.mono HB6.out.size)).alloc (by have := HB6.out.size; have := hb7.size; omega) (.cells (cellsC d (.slice a9 n k9)) 24))
    have HX7 := Lib.hid (((HD6.out.keep hb7).keep (Go.Joins.below_alloc1 w7 (.cells (cellsC d (.slice a9 n k9)) 24))).keep (Go.Joins.below_alloc1 _ (.cells #[.int .i64 0, .int .i64 0, .int .i64 0, .int .i64 0] 27)))
    have HY7 := Lib.hid ((hat9.keep (Go.Joins.below_alloc1 w7 (.cells (cellsC d (.slice a9 n k9)) 24))).keep (Go.Joins.below_alloc1 _ (.cells #[.int .i64 0, .int .i64 0, .int .i64 0, .int .i64 0] 27)))
    have hl77 := (((R76.out.keep hb7).alloc (.cells (cellsC d (.slice a9 n k9)) 24)).alloc (.cells #[.int .i64 0, .int .i64 0, .int .i64 0, .int .i64 0] 27)).load44
    have hl99 := ((row_new w7 24 (cellsC d (.slice a9 n k9))).alloc (.cells #[.int .i64 0, .int .i64 0, .int .i64 0, .int .i64 0] 27)).load44
    clear hb7 hat9 hl7
    go_wp2_with fail
    refine (good_any _ _ [0, 0, 0, 0] _ (by simp) (four0 _ _)).mono ?_
    rintro e w8 ⟨rfl, rfl⟩
    rw [show ([(0 : Int), 0, 0, 0].all (· == 0)) = true from rfl]
    have hE := HE.out
    have hab := HEA.out
    subst hE
    cases icb <;> cases eab
    all_goals
      go_wp2_with fail
      refine (same_is HY7.out HX7.out).mono ?_
      rintro e w9 ⟨rfl, hb9⟩
      have HF := Lib.hid ((HB7.out.alloc HB7.out.size (.cells #[.int .i64 0, .int .i64 0, .int .i64 0, .int .i64 0] 27)).trans (hb9.mono (by have := HB7.out.size; simp at this ⊢; omega)))
      clear hb9
      go_wp2
      go_ret
      exact ⟨rfl, HF.out⟩
  · have her' : (er != 0) = true := by simpa using her
    have HB2 := Lib.hid ((HB1.out.trans (hb2.mono HB1.out.size)).alloc (by have := HB1.out.size; have := hb2.size; omega) (.cells (cellsC zeroC nilS) 24))
    have hz : At (Value.int .i64) 0 (w2.alloc (.cells (cellsC zeroC nilS) 24)) nilS zeroC.xs := ⟨none, 0, rfl, Nat.le_refl _, Nat.zero_le _, .inl rfl⟩
    have HZ := Lib.hid hz
    clear her hb2 hl hz
    go_wp2_with fail
    refine (same_is HZ.out HZ.out).mono ?_
    rintro e w3 ⟨rfl, hb3⟩
    have HB3 := Lib.hid (HB2.out.trans (hb3.mono HB2.out.size))
    clear hb3
    go_wp2
    go_ret
    exact ⟨rfl, HB3.out⟩
end Go.Proofs.Ytjkephmfpoekgaa.CredLaw
