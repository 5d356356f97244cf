/- Walks of ringkeep5's own small functions: Within, good. -/
import Derived.Test.YtopadiofanaaiaaDoorProg
import Derived.Test.YtopadiofanaaiaaDoorBase
namespace Go.Proofs.YtopadiofanaaiaaDoor
open Go.RowKit
set_option linter.unusedVariables false

theorem tmod_neg {k n : Int} (hn : 1 ≤ n) (h : k < 0) : k.tmod n = -((-k) % n) := by
  obtain ⟨m, rfl⟩ : ∃ m : Int, k = -m := ⟨-k, by omega⟩
  rw [Int.neg_tmod, Int.neg_neg, Int.tmod_eq_emod_of_nonneg (by omega)]

theorem rest_any (k n : Int) (w : World) (hn : 1 ≤ n) (hn' : n ≤ 4294967296) :
    Calls Tryd.prog 12 #[.int .i64 k, .int .i64 n] w fun e w' => e = .returned (.int .i64 (k % n)) ∧ w = w' := by
  by_cases h0 : 0 ≤ k
  · have h1 : 0 ≤ k % n := Int.emod_nonneg _ (by omega)
    have h2 : k % n < n := Int.emod_lt_of_pos _ (by omega)
    go_enter Tryd.func12, Tryd.ntmps12
    go_wp2
    go_ret
    exact ⟨rfl, rfl⟩
  · have h1 : 0 ≤ (-k) % n := Int.emod_nonneg _ (by omega)
    have h2 : (-k) % n < n := Int.emod_lt_of_pos _ (by omega)
    have h3 := tmod_neg hn (show k < 0 by omega)
    have h4 : k.tmod n ≤ 0 := by omega
    have h5 : -n < k.tmod n := by omega
    have hd := Int.mul_tdiv_add_tmod k n
    have H3 := Lib.hid h3
    clear h3 hd
    by_cases hz : k.tmod n < 0
    · have hr : k.tmod n + n = k % n := by
        have e1 := H3.out
        have e2 : (-k) % n ≠ 0 := by omega
        have : k % n = n - (-k) % n := by
          have hq : -(-k) % n = if n ∣ -k then 0 else (n.natAbs : Int) - (-k) % n := Int.neg_emod
          rw [Int.neg_neg, if_neg (by intro hdv; exact e2 (Int.emod_eq_zero_of_dvd hdv))] at hq
          omega
        omega
      have HR := Lib.hid hr
      clear hr h1 h2 h0
      go_enter Tryd.func12, Tryd.ntmps12
      go_wp2
      go_ret
      exact ⟨ret_int HR.out, rfl⟩
    · have hr : k.tmod n = k % n := by
        have e1 := H3.out
        have e2 : (-k) % n = 0 := by omega
        have e3 : k % n = 0 := by
          have hd : n ∣ -k := Int.dvd_of_emod_eq_zero e2
          exact Int.emod_eq_zero_of_dvd ((Int.dvd_neg).1 hd)
        omega
      have HR := Lib.hid hr
      clear hr h1 h2 h0
      go_enter Tryd.func12, Tryd.ntmps12
      go_wp2
      go_ret
      exact ⟨ret_int HR.out, rfl⟩

theorem within_any (k n : Int) (w : World) (hn : 1 ≤ n) (hn' : n ≤ 4294967296) :
    Calls Tryd.prog 6 #[.int .i64 k, .int .i64 n] w fun e w' => e = .returned (.int .i64 (k % n)) ∧ w = w' := by
  go_enter Tryd.func6, Tryd.ntmps6
  go_wp2_with (go_at_call 12; refine (rest_any _ _ _ hn hn').mono ?_; rintro e w' ⟨rfl, rfl⟩)
  go_ret
  exact ⟨rfl, rfl⟩

/-- where the first number that is not 0 stands; -1 -/
def firstBad : List Int → Int → Int
  | [], _ => -1
  | e :: t, i => if e = 0 then firstBad t (i + 1) else i
theorem firstBad_ge (l : List Int) : ∀ i, 0 ≤ i → (0 ≤ firstBad l i ↔ l.all (· == 0) = false) ∧ -1 ≤ firstBad l i := by
  induction l with
  | nil => intro i hi; simp [firstBad]
  | cons e t ih =>
    intro i hi
    simp only [firstBad]
    by_cases h : e = 0
    · rw [if_pos h]
      have := ih (i + 1) (by omega)
      simpa [h] using this
    · rw [if_neg h]
      simp [h]
      omega
theorem firstBad_skip (l : List Int) : ∀ (k : Nat) (i : Int), k ≤ l.length → (∀ j, j < k → l.getD j 0 = 0) → firstBad l i = firstBad (l.drop k) (i + k) := by
  induction l with
  | nil => intro k i hk _; simp at hk; subst hk; simp
  | cons e t ih =>
    intro k i hk h
    cases k with
    | zero => simp
    | succ k =>
      have h0 := h 0 (by omega)
      simp at h0
      simp only [firstBad, if_pos h0, List.drop_succ_cons]
      rw [ih k (i + 1) (by simpa using hk) (fun j hj => by simpa using h (j + 1) (by omega))]
      congr 1; omega

theorem bad_any (e : Int) (w : World) : Calls Tryd.prog 21 #[.int .i64 e] w fun r w' => r = .returned (.bool (e != 0)) ∧ w = w' := by
  go_enter Tryd.func21, Tryd.ntmps21
  go_wp2
  go_ret
  exact ⟨rfl, rfl⟩

theorem indexBad_any (b cap : Nat) (l : List Int) (w : World) (hl : l.length ≤ 4294967296) (hc : ∀ i, i < l.length → w.cell? ⟨b, i, none⟩ = some (.int .i64 (l.getD i 0))) :
    Calls Tryd.prog 31 #[.slice (some ⟨b, 0, none⟩) l.length cap, .func (.func 21) #[] #[]] w fun e w' => e = .returned (.int .i64 (firstBad l 0)) ∧ w = w' := by
  obtain ⟨n, hn⟩ : ∃ n, n = l.length := ⟨_, rfl⟩
  have HC := Lib.hid hc
  have HN := Lib.hid hn
  rw [← hn] at hl ⊢
  clear hc hn
  go_enter Tryd.func31, Tryd.ntmps31
  go_wp2_with fail
  go_loop [8] (fun i => ∃ k : Nat, k ≤ n ∧ i = .int .i64 k ∧ Hid (∀ j, j < k → l.getD j 0 = 0)) (fun i => n - (intOf i).toNat)
  case atStart => exact ⟨0, Nat.zero_le _, rfl, fun j hj => absurd hj (Nat.not_lt_zero _)⟩
  case round =>
    obtain ⟨k, hk, rfl, HM⟩ := hrel
    by_cases hlt : k < n
    · obtain ⟨x, hx⟩ : ∃ x, x = l.getD k 0 := ⟨_, rfl⟩
      have g1 := HC.out k (by rw [← HN.out]; exact hlt)
      rw [← hx] at g1
      have HX := Lib.hid hx
      clear hx
      by_cases hz : x = 0
      · have hb : (x != 0) = false := by simp [hz]
        have HZ := Lib.hid hz
        clear hz
        go_wp2_with (go_at_call 21; refine (bad_any _ _).mono ?_; rintro e w' ⟨rfl, rfl⟩)
        go_round
        case rel => exact ⟨k + 1, by omega, by go_num, fun j hj => by
          rcases Nat.lt_succ_iff_lt_or_eq.1 hj with h | rfl
          · exact HM.out j h
          · rw [← HX.out]; exact HZ.out⟩
        case measure => simp [intOf]; omega
      · have hb : (x != 0) = true := by simp [hz]
        have HZ := Lib.hid hz
        clear hz
        go_wp2_with (go_at_call 21; refine (bad_any _ _).mono ?_; rintro e w' ⟨rfl, rfl⟩)
        go_ret
        refine ⟨ret_int ?_, rfl⟩
        rw [firstBad_skip l k 0 (by rw [← HN.out]; omega) HM.out, List.drop_eq_getElem_cons (by rw [← HN.out]; exact hlt), firstBad, if_neg]
        · omega
        · have := HX.out
          simp only [List.getD, List.getElem?_eq_getElem (show k < l.length by rw [← HN.out]; exact hlt), Option.getD_some] at this
          rw [← this]; exact HZ.out
    · obtain rfl : k = n := by omega
      go_wp2_with fail
      go_ret
      refine ⟨ret_int ?_, rfl⟩
      rw [firstBad_skip l k 0 (by rw [← HN.out]; omega) HM.out, List.drop_of_length_le (by rw [← HN.out]; omega)]
      rfl

theorem good_any (b cap : Nat) (l : List Int) (w : World) (hl : l.length ≤ 4294967296) (hc : ∀ i, i < l.length → w.cell? ⟨b, i, none⟩ = some (.int .i64 (l.getD i 0))) :
    Calls Tryd.prog 11 #[.slice (some ⟨b, 0, none⟩) l.length cap] w fun e w' => e = .returned (.bool (l.all (· == 0))) ∧ w = w' := by
  have HI := Lib.hid (indexBad_any b cap l w hl hc)
  obtain ⟨f, hf⟩ : ∃ f, f = firstBad l 0 := ⟨_, rfl⟩
  have hfb := firstBad_ge l 0 (by omega)
  rw [← hf] at HI hfb
  obtain ⟨h1, h2⟩ := hfb
  clear hc hf
  obtain ⟨n, hn⟩ : ∃ n, n = l.length := ⟨_, rfl⟩
  rw [← hn] at HI ⊢
  clear hn hl
  cases hg : l.all (· == 0)
  · have hf0 : 0 ≤ f := h1.2 hg
    clear h1 hg
    go_enter Tryd.func11, Tryd.ntmps11
    go_wp2_with (first | (go_at_call 20; go_in) | (go_at_call 31; refine HI.out.mono ?_; rintro e w' ⟨rfl, rfl⟩))
    go_ret
    exact ⟨rfl, rfl⟩
  · have hf0 : f < 0 := by
      rcases Int.lt_or_le f 0 with h | h
      · exact h
      · have := h1.1 h; rw [hg] at this; cases this
    clear h1 hg
    go_enter Tryd.func11, Tryd.ntmps11
    go_wp2_with (first | (go_at_call 20; go_in) | (go_at_call 31; refine HI.out.mono ?_; rintro e w' ⟨rfl, rfl⟩))
    go_ret
    exact ⟨ret_bool (by simp; omega), rfl⟩
end Go.Proofs.YtopadiofanaaiaaDoor
