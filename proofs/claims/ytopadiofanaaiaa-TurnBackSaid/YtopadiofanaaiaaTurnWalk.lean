/- The walks of turn.count, turn.Check, turn.Count, slices.Clone, slices.Equal. -/
import Derived.Test.YtopadiofanaaiaaTurnPlain
import Derived.Test.YtopadiofanaaiaaCommon
import Derived.Test.YtopadiofanaaiaaTab
import Derived.WalkSmall
import Derived.BigQuiet
import Derived.Lib.SliceRun
namespace Go.Proofs.Ytopadiofanaaiaa.TurnLaw
open Go.RowKit
set_option linter.unusedVariables false

def natV (n : Nat) : Value := .int .i64 (n : Int)
abbrev NatS (w : World) (v : Value) (l : List Nat) : Prop := At natV 0 w v l

set_option maxRecDepth 100000 in
set_option maxHeartbeats 1000000 in
theorem count_is {w : World} {v : Value} {l : List Nat} (hs : l.sum ≤ 12) (h : NatS w v l) : Calls Try.prog 31 #[v] w fun e w' => e = .returned (.int .i64 (countR l)) ∧ w = w' := by
  obtain ⟨a, cap, rfl, hl, hcap, h⟩ := h
  have hlen : l.length ≤ 9223372036854775807 := by unfold maxLen at hcap; omega
  obtain ⟨n, hn⟩ : ∃ n, n = l.length := ⟨_, rfl⟩
  rw [← hn] at hl hlen ⊢
  have HN := Lib.hid hn
  have HL := Lib.hid h
  have HS := Lib.hid hs
  clear hn h hcap hs
  go_enter Try.func31, Try.ntmps31
  go_wp2
  go_loop [3, 4, 10] (fun ov av iv => ∃ i : Nat, i ≤ n ∧ ov = natV (cAll (l.take i)).1 ∧ av = natV (cAll (l.take i)).2 ∧ iv = .int .i64 i) (fun _ _ iv => n - (intOf iv).toNat)
  case atStart => exact ⟨0, Nat.zero_le _, rfl, rfl, rfl⟩
  case round =>
    obtain ⟨i, hi, rfl, rfl, rfl⟩ := hrel
    by_cases hlt : i < n
    · rcases HL.out with h0 | ⟨b, off, rfl, hb, hc⟩
      · have := HN.out; rw [h0] at this; simp at this; omega
      have hil : i < l.length := by rw [← HN.out]; exact hlt
      have g := hc i hil
      have hnext := cAll_next hil
      have hsum : (cAll (l.take i)).2 + l.getD i 0 ≤ 12 := by
        rw [cAll_all]
        have h1 := take_sum_next hil
        have h2 := take_sum_le l (i + 1)
        have := HS.out
        omega
      have hbd : (cAll (l.take i)).1 ≤ 12 ^ (cAll (l.take i)).2 := cAll_bound _ (Nat.le_trans (take_sum_le l i) HS.out)
      obtain ⟨x, hx⟩ : ∃ x, x = l.getD i 0 := ⟨_, rfl⟩
      obtain ⟨s, hse⟩ : ∃ s, s = cAll (l.take i) := ⟨_, rfl⟩
      rw [← hx] at g hnext hsum
      rw [← hse] at hnext hsum hbd ⊢
      have HNX := Lib.hid hnext
      have HBD := Lib.hid hbd
      have HSUM := Lib.hid hsum
      unfold natV at g ⊢
      clear hx hse hnext hbd hc
      have hx12 : (x : Int) ≤ 12 := by omega
      go_wp2
      go_loop [3, 4, 7] (fun ov av jv => ∃ j : Nat, j ≤ x ∧ ov = .int .i64 ((steps s j).1 : Nat) ∧ av = .int .i64 ((steps s j).2 : Nat) ∧ jv = .int .i64 ((j + 1 : Nat) : Int)) (fun _ _ jv => 13 - (intOf jv).toNat)
      case atStart => exact ⟨0, Nat.zero_le _, rfl, rfl, rfl⟩
      case round =>
        obtain ⟨j, hj, rfl, rfl, rfl⟩ := hrel
        by_cases hjx : j < x
        · have hst := steps_succ s j
          have hall := steps_all s j
          have hbj := steps_bound HBD.out j (by have := HSUM.out; omega)
          obtain ⟨q, hq⟩ : ∃ q, q = steps s j := ⟨_, rfl⟩
          rw [← hq] at hst hall hbj ⊢
          obtain ⟨q1, q2⟩ := q
          simp only at hall hbj
          have hq12 : (q2 : Int) + 1 ≤ 12 := by have := HSUM.out; omega
          have hpow : 12 ^ q2 ≤ 12 ^ 12 := Nat.pow_le_pow_right (by decide) (by omega)
          have hq1 : q1 ≤ 8916100448256 := Nat.le_trans hbj (Nat.le_trans hpow (by decide))
          have hmul : q1 * (q2 + 1) ≤ 8916100448256 * 12 := Nat.mul_le_mul hq1 (by omega)
          have hprod : (q1 : Int) * ((q2 : Int) + 1) = ((q1 * (q2 + 1) : Nat) : Int) := by push_cast; rfl
          have he : (((q1 * (q2 + 1) : Nat) : Int) / ((j : Int) + 1)) = ((q1 * (q2 + 1) / (j + 1) : Nat) : Int) := by
            rw [show ((j : Int) + 1) = ((j + 1 : Nat) : Int) from by push_cast; rfl]; rfl
          have HST := Lib.hid hst
          have hm1 : (0 : Int) ≤ ((q1 * (q2 + 1) : Nat) : Int) := Int.natCast_nonneg _
          have hm2 : ((q1 * (q2 + 1) : Nat) : Int) ≤ 106993205379072 := by omega
          have hm3 : (q1 : Int) ≤ 8916100448256 := by omega
          clear hst hall hbj hpow hq hq1 hmul
          generalize hpp : ((q1 * (q2 + 1) : Nat) : Int) = P at *
          have hjj : (j : Int) + 1 ≠ 0 := by omega
          have HE := Lib.hid he
          clear he
          go_wp2
          go_round
          case rel =>
            refine ⟨j + 1, by omega, ?_, ?_, by go_num⟩
            · rw [HE.out, HST.out]; rfl
            · rw [HST.out]; rfl
          case measure => simp [intOf]; omega
        · obtain rfl : j = x := by omega
          go_wp2
          go_round
          case rel => exact ⟨i + 1, by omega, by rw [HNX.out], by rw [HNX.out], by go_num⟩
          case measure => simp [intOf]; omega
    · obtain rfl : i = n := by omega
      have he : (cAll (l.take i)).1 = countR l := by rw [List.take_of_length_le (by rw [HN.out]; exact Nat.le_refl _)]; rfl
      rw [he]
      unfold natV
      go_wp2
      go_ret
      exact ⟨rfl, rfl⟩

def good4 (l : List Nat) : Prop := l.length ≤ 4 ∧ l.sum ≤ 12
theorem getD_le {l : List Nat} {i : Nat} (h : i < l.length) : l.getD i 0 ≤ l.sum := by
  have h1 := take_sum_next h
  have h2 := take_sum_le l (i + 1)
  omega
set_option maxHeartbeats 1000000 in
theorem check_is {w : World} {v : Value} {l : List Nat} (hg : good4 l) (h : NatS w v l) : Calls Try.prog 30 #[v] w fun e w' => e = .returned (.int .i64 0) ∧ w = w' := by
  obtain ⟨a, cap, rfl, hl, hcap, h⟩ := h
  obtain ⟨h4, hs⟩ := hg
  obtain ⟨n, hn⟩ : ∃ n, n = l.length := ⟨_, rfl⟩
  rw [← hn] at hl h4 ⊢
  have HN := Lib.hid hn
  have HL := Lib.hid h
  have HS := Lib.hid hs
  clear hn h hcap hs
  go_enter Try.func30, Try.ntmps30
  go_wp2
  go_loop [3, 11] (fun sv iv => ∃ i : Nat, i ≤ n ∧ sv = .int .i64 ((l.take i).sum : Nat) ∧ iv = .int .i64 i) (fun _ iv => n - (intOf iv).toNat)
  case atStart => exact ⟨0, Nat.zero_le _, rfl, rfl⟩
  case round =>
    obtain ⟨i, hi, rfl, rfl⟩ := hrel
    by_cases hlt : i < n
    · rcases HL.out with h0 | ⟨b, off, rfl, hb, hc⟩
      · have := HN.out; rw [h0] at this; simp at this; omega
      have hil : i < l.length := by rw [← HN.out]; exact hlt
      have g := hc i hil
      have hnext := take_sum_next hil
      have h12 : (l.take i).sum + l.getD i 0 ≤ 12 := by
        have h2 := take_sum_le l (i + 1)
        have := HS.out
        omega
      obtain ⟨x, hx⟩ : ∃ x, x = l.getD i 0 := ⟨_, rfl⟩
      obtain ⟨q, hq⟩ : ∃ q, q = (l.take i).sum := ⟨_, rfl⟩
      rw [← hx] at g hnext h12
      rw [← hq] at hnext h12 ⊢
      have HNX := Lib.hid hnext
      unfold natV at g
      have hx12 : (x : Int) ≤ 12 := by omega
      have hqx : (q : Int) + x ≤ 12 := by omega
      clear hx hq hnext hc h12
      go_wp2
      go_round
      case rel => exact ⟨i + 1, by omega, by rw [HNX.out]; go_num, by go_num⟩
      case measure => simp [intOf]; omega
    · obtain rfl : i = n := by omega
      go_wp2
      go_ret
      exact ⟨rfl, rfl⟩
theorem Count_is {w : World} {v : Value} {l : List Nat} (hg : good4 l) (h : NatS w v l) : Calls Try.prog 15 #[v] w fun e w' => e = .returned (.tuple #[.int .i64 (countR l), .int .i64 0]) ∧ w = w' := by
  have HC := Lib.hid (check_is hg h)
  have HK := Lib.hid (count_is hg.2 h)
  clear h hg
  go_enter Try.func15, Try.ntmps15
  go_wp2_with fail
  refine HC.out.mono ?_
  rintro e w1 ⟨rfl, rfl⟩
  go_wp2_with fail
  refine HK.out.mono ?_
  rintro e w1 ⟨rfl, rfl⟩
  go_wp2
  go_ret2
  exact ⟨rfl, rfl⟩
end Go.Proofs.Ytopadiofanaaiaa.TurnLaw
