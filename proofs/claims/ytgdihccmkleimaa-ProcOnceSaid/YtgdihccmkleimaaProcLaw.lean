/- The walks of ringkeep5.ProcOnce and ringkeep5.ProcTree. -/
import Derived.Test.YtgdihccmkleimaaProcWorked
namespace Go.Proofs.Ytgdihccmkleimaa.ProcLaw
open Go.RowKit
set_option linter.unusedVariables false

/-- how many of the first n behind 1 are not free -/
def cntTo (t : T) (n : Nat) : Nat := (List.range n).countP (fun i => decide ((t (i + 2)).st ≠ 0))
theorem cntTo_all (t : T) : cntTo t 15 = cnt t := rfl
theorem cntTo_yes {t : T} {n : Nat} (h : (t (n + 2)).st ≠ 0) : cntTo t (n + 1) = cntTo t n + 1 := by
  unfold cntTo
  rw [List.range_succ, List.countP_append, List.countP_cons_of_pos (by simpa using h)]
  rfl
theorem cntTo_no {t : T} {n : Nat} (h : (t (n + 2)).st = 0) : cntTo t (n + 1) = cntTo t n := by
  unfold cntTo
  rw [List.range_succ, List.countP_append, List.countP_cons_of_neg (by simp [h])]
  rfl
theorem cntTo_le (t : T) (n : Nat) : cntTo t n ≤ n := by
  have := List.countP_le_length (p := fun i => decide ((t (i + 2)).st ≠ 0)) (l := List.range n)
  simpa [cntTo] using this

set_option maxRecDepth 100000 in
set_option maxHeartbeats 2000000 in
theorem proconce_any {w : World} {v : Value} {len : Nat} {F : Nat → Nat → Int} (h : TabIn w 2 v len F) : Calls Try.prog 12 #[v] w fun e w' => e = .returned (.bool true) ∧ Below w.heap.size w w' := by
  have hwork := fun w' (hb : Below w.heap.size w w') => worked_is (w := w') (v := v) (len := len) (F := F) (by
    obtain ⟨a, cap, rfl, hl, hcap, h⟩ := h
    refine ⟨a, cap, rfl, hl, hcap, ?_⟩
    rcases h with h | ⟨b, off, ha, hlt, hF⟩
    · exact .inl h
    · exact .inr ⟨b, off, ha, Nat.lt_of_lt_of_le hlt hb.size, fun i hi j hj => ⟨(hb.cell (p := ⟨b, _, none⟩) hlt).trans (hF i hi j hj).1, (hF i hi j hj).2⟩⟩)
  have HW := Lib.hid hwork
  clear hwork h
  go_enter Try.func12, Try.ntmps12
  go_wp2_with fail
  refine (procs_any _).mono ?_
  rintro e w1 ⟨rfl, hb1⟩
  go_wp2_with fail
  refine (HW.out _ hb1).mono ?_
  rintro e w2 ⟨b, t, N, M, rfl, hb2, ht, hi, hcnt, hN, _⟩
  have HB2 := Lib.hid (hb1.trans (hb2.mono hb1.size))
  have HT := Lib.hid ht
  have HC := Lib.hid hcnt
  have HNN := Lib.hid hN
  clear hb1 hb2 ht hi hcnt hN
  go_wp2_with fail
  go_loop [6, 7] (fun cv iv => ∃ k : Nat, k ≤ 15 ∧ cv = .int .i64 (cntTo t k) ∧ iv = .int .i64 ((k + 2 : Nat) : Int)) (fun _ iv => 17 - (intOf iv).toNat)
  case atStart => exact ⟨0, by omega, rfl, rfl⟩
  case round =>
    obtain ⟨k, hk, rfl, rfl⟩ := hrel
    by_cases hlt : k < 15
    · have hle := cntTo_le t k
      obtain ⟨c, hc⟩ : ∃ c, c = cntTo t k := ⟨_, rfl⟩
      rw [← hc] at hle ⊢
      have HCC := Lib.hid hc
      have hc15 : (c : Int) < 15 := by omega
      obtain ⟨j, hj⟩ : ∃ j, j = k + 2 := ⟨_, rfl⟩
      rw [← hj]
      have HJ := Lib.hid hj
      have hj1 : (j : Int) ≤ 16 := by omega
      have HLT := Lib.hid hlt
      clear hc hj hk
      by_cases hs : (t j).st = 0
      · have hcall := fun w' => state_is (w := w') (b := b) (k := j) (t := t)
        have HS := Lib.hid hs
        have hst := state_is HT.out (k := j) (by have := HJ.out; omega) (by omega)
        rw [hs] at hst
        have HST := Lib.hid hst
        clear hs hst hcall
        go_wp2_with fail
        refine HST.out.mono ?_
        rintro e w3 ⟨rfl, rfl⟩
        go_wp2
        go_round
        case rel =>
          refine ⟨k + 1, HLT.out, ?_, ?_⟩
          · rw [cntTo_no (by rw [← HJ.out]; exact HS.out), ← HCC.out]
          · have := HJ.out; go_num
        case measure => simp [intOf]; omega
      · have hst := state_is HT.out (k := j) (by have := HJ.out; omega) (by omega)
        have hs' : ((t j).st != 0) = true := by simp [hs]
        have HS := Lib.hid hs
        have HST := Lib.hid hst
        clear hs hst
        go_wp2_with fail
        refine HST.out.mono ?_
        rintro e w3 ⟨rfl, rfl⟩
        go_wp2
        go_round
        case rel =>
          refine ⟨k + 1, HLT.out, ?_, ?_⟩
          · rw [cntTo_yes (by rw [← HJ.out]; exact HS.out), ← HCC.out]; go_num
          · have := HJ.out; go_num
        case measure => simp [intOf]; omega
    · obtain rfl : k = 15 := by omega
      have h1 := HC.out
      have h2 := HNN.out
      rw [cntTo_all]
      obtain ⟨c, hc⟩ : ∃ c, c = cnt t := ⟨_, rfl⟩
      rw [← hc] at h1 ⊢
      have hNe : ((N : Int) == (M : Int) + (c : Int)) = true := by simp; omega
      have hwr : wrap64 ((M : Int) + (c : Int)) = (M : Int) + c := by unfold wrap64; omega
      clear hc
      go_wp2
      go_ret
      exact ⟨by simp [h1], HB2.out⟩
end Go.Proofs.Ytgdihccmkleimaa.ProcLaw
