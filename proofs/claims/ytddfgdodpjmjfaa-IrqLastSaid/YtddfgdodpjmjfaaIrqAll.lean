/- The walks of ringkeep5.IrqAll and IrqTaken. -/
import Derived.Test.YtddfgdodpjmjfaaIrqLaws
import Derived.Test.YtddfgdodpjmjfaaIrqAllPlain
import Derived.BigQuiet
namespace Go.Proofs.Ytddfgdodpjmjfaa.IrqLaw
open Go.RowKit
set_option linter.unusedVariables false

theorem sum_take (l : List Int) (k : Nat) (hk : k < l.length) : sumL (l.take (k + 1)) = sumL (l.take k) + l.getD k 0 := by
  rw [List.take_succ_eq_append_getElem hk, sumL_append]
  simp [sumL, List.getD, hk]
theorem sum_bound (l : List Int) (h : ∀ x ∈ l, 0 ≤ x ∧ x ≤ 100) : 0 ≤ sumL l ∧ sumL l ≤ 100 * l.length := by
  induction l with
  | nil => simp [sumL]
  | cons x t ih =>
    have h1 := h x (by simp)
    have h2 := ih (fun y hy => h y (by simp [hy]))
    simp only [sumL, List.length_cons]
    omega

set_option maxHeartbeats 1000000 in
theorem irqall_any {w : World} {va vb vc : Value} {had news : List Int} {rings : List Bool} (hA : At (Value.int .i64) 0 w va had) (hB : At (Value.int .i64) 0 w vb news) (hC : At Value.bool false w vc rings) :
    Calls Try.prog 7 #[va, vb, vc] w fun e w' => e = .returned (.bool true) ∧ Below w.heap.size w w' := by
  have hlaw := all_law had news rings
  obtain ⟨r, hr⟩ : ∃ r, r = serveR had news rings := ⟨_, rfl⟩
  rw [← hr] at hlaw
  have HR := Lib.hid hr
  have HA := Lib.hid hA
  have HB := Lib.hid hB
  have HC := Lib.hid hC
  clear hr hA hB hC
  obtain ⟨d, q, en⟩ := r
  simp only at hlaw
  rcases hlaw with ⟨h1, h2, h3⟩ | ⟨h1, h2, h3, h4, h5, h6⟩
  · subst h2 h3
    have hne : (en != 0) = true := by simpa using h1
    clear h1
    go_enter Try.func7, Try.ntmps7
    go_wp2_with fail
    refine (lines_any _).mono ?_
    rintro e w1 ⟨rfl, hb1⟩
    go_wp2_with fail
    refine (serve_is (HA.out.keep hb1) (HB.out.keep hb1) (HC.out.keep hb1)).mono ?_
    rintro e w2 ⟨rfl, hb2⟩
    rw [← HR.out]
    go_wp2
    go_ret
    exact ⟨rfl, hb1.trans (hb2.mono hb1.size)⟩
  · subst h1
    have hdq : (d + q == sumL news) = true := by simp [h4]
    have hsb := sum_bound news h6
    have H6 := Lib.hid h6
    have HS := Lib.hid h4
    clear h4 h6
    obtain ⟨b, cb, hv, hlb, hmb, hb⟩ := HB.out
    obtain ⟨n, hn⟩ : ∃ n, n = news.length := ⟨_, rfl⟩
    rw [← hn] at h5 hsb hv
    have HN := Lib.hid hn
    clear hn hlb
    obtain ⟨s1, s2⟩ := hsb
    obtain ⟨tot, htot⟩ : ∃ t, t = sumL news := ⟨_, rfl⟩
    rw [← htot] at hdq s1 s2 HS
    have hs3 := HS.out
    have HT := Lib.hid htot
    clear htot
    have hd1 : d ≤ 6400 := by omega
    have hq1 : q ≤ 6400 := by omega
    clear hs3
    subst hv
    go_enter Try.func7, Try.ntmps7
    go_wp2_with fail
    refine (lines_any _).mono ?_
    rintro e w1 ⟨rfl, hb1⟩
    go_wp2_with fail
    refine (serve_is (HA.out.keep hb1) (HB.out.keep hb1) (HC.out.keep hb1)).mono ?_
    rintro e w2 ⟨rfl, hb2⟩
    rw [← HR.out]
    have hbel := hb1.trans (hb2.mono hb1.size)
    clear hb1 hb2
    rcases hb with hb | ⟨bb, ob, rfl, hlt, hc⟩
    · have hn0 : n = 0 := by rw [HN.out, hb]; rfl
      subst hn0
      have ht0 : tot = 0 := by rw [HT.out, hb]; rfl
      subst ht0
      clear hb
      go_wp2
      refine wp_loop_rounds 1 ?_
      rw [rounds_succ]
      go_wp2
      go_ret
      exact ⟨rfl, hbel⟩
    · have HCE := Lib.hid hc
      clear hc
      go_wp2
      go_loop [10, 33] (fun av iv => ∃ k : Nat, k ≤ n ∧ iv = .int .i64 k ∧ av = .int .i64 (sumL (news.take k))) (fun _ iv => n - (intOf iv).toNat)
      case atStart => exact ⟨0, Nat.zero_le _, rfl, rfl⟩
      case round =>
        obtain ⟨k, hk, rfl, rfl⟩ := hrel
        have hsk := sum_bound (news.take k) (fun x hx => H6.out x (List.mem_of_mem_take hx))
        have hkl : (news.take k).length = k := by rw [List.length_take, ← HN.out]; omega
        rw [hkl] at hsk
        obtain ⟨t, ht⟩ : ∃ t, t = sumL (news.take k) := ⟨_, rfl⟩
        rw [← ht] at hsk ⊢
        obtain ⟨t0, t1⟩ := hsk
        have HTK := Lib.hid ht
        clear ht hkl
        by_cases hlt' : k < n
        · obtain ⟨x, hx⟩ : ∃ x, x = news.getD k 0 := ⟨_, rfl⟩
          have g1 := (hbel.cell (p := ⟨bb, ob + k, none⟩) hlt).trans (HCE.out k (by rw [← HN.out]; exact hlt'))
          rw [← hx] at g1
          have hxb : 0 ≤ x ∧ x ≤ 100 := H6.out x (by rw [hx]; simp [List.getD, show k < news.length by rw [← HN.out]; exact hlt'])
          obtain ⟨x0, x1⟩ := hxb
          have HX := Lib.hid hx
          clear hx
          go_wp2
          go_round
          case rel => exact ⟨k + 1, by omega, by go_num, by rw [sum_take news k (by rw [← HN.out]; exact hlt'), ← HTK.out, ← HX.out]⟩
          case measure => simp [intOf]; omega
        · obtain rfl : k = n := by omega
          have htt : t = tot := by rw [HTK.out, HT.out, List.take_of_length_le (by rw [← HN.out]; omega)]
          subst htt
          go_wp2
          go_ret
          exact ⟨rfl, hbel⟩
end Go.Proofs.Ytddfgdodpjmjfaa.IrqLaw
