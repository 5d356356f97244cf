/- The walks of ringkeep5.procs and ringkeep5.worked. -/
import Derived.Test.YtgdihccmkleimaaProcExit
namespace Go.Proofs.Ytgdihccmkleimaa.ProcLaw
open Go.RowKit
set_option linter.unusedVariables false

theorem three0 (w : World) (T : TypeId) : ∀ i, i < [(0 : Int), 0, 0].length → (w.alloc (.cells #[.int .i64 0, .int .i64 0, .int .i64 0] T)).cell? ⟨w.heap.size, i, none⟩ = some (.int .i64 ([(0 : Int), 0, 0].getD i 0)) := by
  intro i hi
  rw [cell_of_row _ _ _ _ _ _ (heap_alloc_new _ _)]
  have : i = 0 ∨ i = 1 ∨ i = 2 := by simp at hi; omega
  rcases this with rfl | rfl | rfl <;> rfl
theorem first_fork {r en : Int} {t' : T} (h : (en ≠ 0 ∧ t' = start ∧ (livR start 1 ≠ 0 ∨ ∀ k, 1 ≤ k → k ≤ 16 → (start k).st ≠ 0)) ∨ (en = 0 ∧ ∃ k q : Nat, r = k ∧ 1 ≤ k ∧ k ≤ 16 ∧ (start k).st = 0 ∧ (∀ j, 1 ≤ j → j < k → (start j).st ≠ 0) ∧ (1 : Int) = q ∧ alive start q ∧ t' = forked start k q)) : en = 0 ∧ r = 2 ∧ t' = forked start 2 1 := by
  rcases h with ⟨_, _, h | h⟩ | ⟨h0, k, q, rfl, k1, k2, k3, k4, hq, _, rfl⟩
  · exact absurd (by decide) h
  · exact absurd (by decide) (h 2 (by decide) (by decide))
  · obtain rfl : q = 1 := by omega
    have hk1 : k ≠ 1 := by rintro rfl; exact absurd k3 (by decide)
    have hk : k = 2 := by
      rcases Nat.lt_or_ge 2 k with h | h
      · exact absurd (by decide) (k4 2 (by decide) h)
      · omega
    subst hk
    exact ⟨h0, rfl, rfl⟩
theorem first_exit {r en c : Int} {t' : T} (h : (en ≠ 0 ∧ t' = forked start 2 1 ∧ (livR (forked start 2 1) 2 ≠ 0 ∨ (2 : Int) = 1)) ∨ (en = 0 ∧ ∃ q : Nat, (2 : Int) = q ∧ alive (forked start 2 1) q ∧ q ≠ 1 ∧ t' = ended (forked start 2 1) q c ∧ r = (t' q).par)) : en = 0 ∧ r = 1 ∧ t' = ended (forked start 2 1) 2 c := by
  rcases h with ⟨_, _, h | h⟩ | ⟨h0, q, hq, _, _, rfl, rfl⟩
  · exact absurd (by decide) h
  · cases h
  · obtain rfl : q = 2 := by omega
    refine ⟨h0, ?_, rfl⟩
    rw [ended_par _ _ _ _ (by decide)]; decide
theorem only_two (c : Int) : ∀ j : Nat, j < 17 → (ended (forked start 2 1) 2 c j).st = 2 → j = 2 := by
  intro j hj h
  rw [ended_st] at h
  by_cases e : j = 2
  · exact e
  · rw [if_neg e] at h
    have : ∀ j : Fin 17, (forked start 2 1 j.val).st ≠ 2 := by decide +kernel
    exact absurd h (this ⟨j, hj⟩)
theorem first_wait {r c0 en c : Int} {t' : T} (h : (en ≠ 0 ∧ t' = ended (forked start 2 1) 2 c ∧ (livR (ended (forked start 2 1) 2 c) 1 ≠ 0 ∨ ∀ j, j < 17 → ¬ ((ended (forked start 2 1) 2 c j).par = 1 ∧ (ended (forked start 2 1) 2 c j).st = 2))) ∨ (en = 0 ∧ ∃ k q : Nat, r = k ∧ k < 17 ∧ (1 : Int) = q ∧ alive (ended (forked start 2 1) 2 c) q ∧ (ended (forked start 2 1) 2 c k).st = 2 ∧ (ended (forked start 2 1) 2 c k).par = q ∧ (∀ j, j < k → ¬ ((ended (forked start 2 1) 2 c j).par = 1 ∧ (ended (forked start 2 1) 2 c j).st = 2)) ∧ c0 = (ended (forked start 2 1) 2 c k).code ∧ t' = updE (ended (forked start 2 1) 2 c) k e0)) : en = 0 ∧ r = 2 ∧ c0 = c := by
  rcases h with ⟨_, _, h | h⟩ | ⟨h0, k, q, rfl, k1, _, _, k3, _, _, rfl, _⟩
  · have ha : alive (ended (forked start 2 1) 2 c) 1 := ⟨by decide, by decide, by rw [ended_st]; decide⟩
    exact absurd (livR_alive ha) h
  · refine absurd ⟨?_, ?_⟩ (h 2 (by decide))
    · rw [ended_par _ _ _ _ (by decide)]; decide
    · rw [ended_st]; decide
  · obtain rfl := only_two c k k1 k3
    refine ⟨h0, rfl, ?_⟩
    rw [ended, updE_same]
set_option maxRecDepth 100000 in
set_option maxHeartbeats 1000000 in
theorem procs_any (w : World) : Calls Try.prog 43 #[] w fun e w' => e = .returned (.bool true) ∧ Below w.heap.size w w' := by
  have hb7 : bits .and .i64 7 255 = 7 := by decide +kernel
  have HB7 := Lib.hid hb7
  clear hb7
  go_enter Try.func43, Try.ntmps43
  go_wp2_with fail
  refine (new_is _).mono ?_
  rintro e w1 ⟨rfl, hb1, ht1⟩
  go_wp2_with fail
  refine (fork_is 1 ht1).mono ?_
  rintro e w2 ⟨r, en, t', rfl, hb2, ht2, hc⟩
  obtain ⟨rfl, rfl, rfl⟩ := first_fork hc
  have HB2 := Lib.hid (hb1.trans hb2)
  clear hb1 hb2 hc ht1
  go_wp2_with fail
  refine (exit_is 2 7 ht2).mono ?_
  rintro e w3 ⟨r, en, t', rfl, hb3, ht3, hc⟩
  obtain ⟨rfl, rfl, rfl⟩ := first_exit hc
  have HB3 := Lib.hid (HB2.out.trans hb3)
  clear hb3 hc ht2
  go_wp2_with fail
  refine (wait_is 1 ht3).mono ?_
  rintro e w4 ⟨r, c, en, t', rfl, hb4, ht4, hc⟩
  obtain ⟨rfl, rfl, rfl⟩ := first_wait hc
  have HB4 := Lib.hid (HB3.out.trans hb4)
  clear hb4 hc ht3 ht4
  rw [HB7.out]
  go_wp2_with fail
  refine (good_any _ _ [0, 0, 0] _ (by simp) (three0 _ _)).mono ?_
  rintro e w5 ⟨rfl, rfl⟩
  rw [show ([(0 : Int), 0, 0].all (· == 0)) = true from rfl]
  go_wp2
  go_ret
  exact ⟨rfl, HB4.out.alloc HB4.out.size _⟩

def WorkedPost (w : World) (e : Ending) (w' : World) : Prop :=
  ∃ (b : Nat) (t : T) (N M : Nat), e = .returned (.tuple #[.pointer (some ⟨b, 0, none⟩), .int .i64 N, .int .i64 M]) ∧ Below w.heap.size w w' ∧ TabAt w' b t ∧ Inv t ∧ N = M + cnt t ∧ N ≤ 9223372036854775807 ∧ w.heap.size ≤ b
set_option maxRecDepth 100000 in
set_option maxHeartbeats 4000000 in
theorem worked_is {w : World} {v : Value} {len : Nat} {F : Nat → Nat → Int} (h : TabIn w 2 v len F) : Calls Try.prog 44 #[v] w (WorkedPost w) := by
  obtain ⟨a, cap, rfl, hl, hcap, h⟩ := h
  have hlen : len ≤ 9223372036854775807 := by unfold maxLen at hcap; omega
  have HD := Lib.hid h
  clear h hcap
  go_enter Try.func44, Try.ntmps44
  go_wp2_with fail
  refine (new_is _).mono ?_
  rintro e w1 ⟨rfl, hb1, ht1⟩
  have HB1 := Lib.hid hb1
  have HT1 := Lib.hid ht1
  clear hb1 ht1
  go_wp2_with fail
  go_loopw [6, 7, 21] (fun nv mv iv wr => ∃ (k N M : Nat) (t : T), k ≤ len ∧ nv = .int .i64 N ∧ mv = .int .i64 M ∧ iv = .int .i64 k ∧ Below w.heap.size w wr ∧ Hid (TabAt wr w.heap.size t) ∧ Hid (Inv t) ∧ N = M + cnt t ∧ N ≤ k) (fun _ _ iv _ => len - (intOf iv).toNat)
  case atStart => exact ⟨0, 0, 0, start, by omega, rfl, rfl, rfl, HB1.out, HT1.out, start_inv, by rw [start_cnt], by omega⟩
  case round =>
    obtain ⟨k, N, M, t, hk, rfl, rfl, rfl, hbel, HT, HI, hcnt, hNk⟩ := hrel
    by_cases hlt : k < len
    · rcases HD.out with h0 | ⟨bd, off, rfl, hbd, hF⟩
      · omega
      obtain ⟨d0, hd0⟩ : ∃ d, d = F k 0 := ⟨_, rfl⟩
      obtain ⟨d1, hd1⟩ : ∃ d, d = F k 1 := ⟨_, rfl⟩
      have g0 := (hbel.cell (p := ⟨bd, off + k * 2, none⟩) hbd).trans (hF k hlt 0 (by decide)).1
      have g1 := (hbel.cell (p := ⟨bd, off + k * 2 + 1, none⟩) hbd).trans (hF k hlt 1 (by decide)).1
      rw [← hd0] at g0
      rw [← hd1] at g1
      have hA : Below wr.heap.size wr (wr.alloc (.cells #[.int .i64 d0, .int .i64 d1] 71)) := Go.Joins.below_alloc1 _ _
      have ht2 := HT.out.keep hA
      have hbel2 := hbel.trans (hA.mono hbel.size)
      have HT2 := Lib.hid ht2
      have HB2 := Lib.hid hbel2
      have HC := Lib.hid hcnt
      have HNK := Lib.hid (show N + 1 ≤ k + 1 from by omega)
      have HKL := Lib.hid (show k + 1 ≤ len from hlt)
      have hN : (N : Int) < 9223372036854775807 := by omega
      have hM : (M : Int) < 9223372036854775807 := by omega
      clear hd0 hd1 hF hA ht2 hbel2 hcnt
      obtain ⟨p, hp⟩ : ∃ p : Int, d0 % 16 = p := ⟨_, rfl⟩
      obtain ⟨z, hz⟩ : ∃ p : Int, d1 % 3 = p := ⟨_, rfl⟩
      have hz3 : z = 0 ∨ z = 1 ∨ z = 2 := by omega
      have HP := Lib.hid hp
      have HZ := Lib.hid hz
      have hp1 : 0 ≤ p ∧ p < 16 := by omega
      obtain ⟨hp0, hp16⟩ := hp1
      clear hp hz
      rcases hz3 with rfl | rfl | rfl
      · go_wp2_with fail
        refine (within_any _ 16 _ (by decide) (by decide)).mono ?_
        rintro e w2 ⟨rfl, rfl⟩
        rw [HP.out]
        go_wp2_with fail
        refine (within_any _ 3 _ (by decide) (by decide)).mono ?_
        rintro e w2 ⟨rfl, rfl⟩
        rw [HZ.out]
        go_wp2_with fail
        refine (fork_is _ HT2.out).mono ?_
        rintro e w3 ⟨r, en, t', rfl, hb3, ht3, hc⟩
        have HB3 := Lib.hid (HB2.out.trans hb3)
        have HT3 := Lib.hid ht3
        clear hb3 ht3
        rcases hc with ⟨hen, rfl, _⟩ | ⟨rfl, k', q, rfl, k1, k2, k3, k4, _, hq, rfl⟩
        · have hen' : (en == 0) = false := by simp [hen]
          clear hen
          go_wp2
          go_roundw
          case rel => exact ⟨k + 1, N, M, t', HKL.out, rfl, rfl, by go_num, HB3.out, HT3.out, HI.out, HC.out, by have := HNK.out; omega⟩
          case measure => have := HKL.out; simp [intOf]; omega
        · have HC2 := Lib.hid (fork_cnt (p := q) HI.out k1 k2 k3)
          have HI2 := Lib.hid (fork_inv HI.out k1 k2 k3 hq)
          clear k1 k2 k3 k4 hq
          go_wp2
          go_roundw
          case rel => exact ⟨k + 1, N + 1, M, _, HKL.out, by go_num, rfl, by go_num, HB3.out, HT3.out, HI2.out, by rw [HC2.out]; have := HC.out; omega, HNK.out⟩
          case measure => have := HKL.out; simp [intOf]; omega
      · go_wp2_with fail
        refine (within_any _ 16 _ (by decide) (by decide)).mono ?_
        rintro e w2 ⟨rfl, rfl⟩
        rw [HP.out]
        go_wp2_with fail
        refine (within_any _ 3 _ (by decide) (by decide)).mono ?_
        rintro e w2 ⟨rfl, rfl⟩
        rw [HZ.out]
        go_wp2_with fail
        refine (exit_is _ _ HT2.out).mono ?_
        rintro e w3 ⟨r, en, t', rfl, hb3, ht3, hc⟩
        have HB3 := Lib.hid (HB2.out.trans hb3)
        have HT3 := Lib.hid ht3
        clear hb3 ht3
        rcases hc with ⟨hen, rfl, _⟩ | ⟨rfl, q, _, hq, q1, rfl, _⟩
        · go_wp2
          go_roundw
          case rel => exact ⟨k + 1, N, M, t', HKL.out, rfl, rfl, by go_num, HB3.out, HT3.out, HI.out, HC.out, by have := HNK.out; omega⟩
          case measure => have := HKL.out; simp [intOf]; omega
        · have HC2 := Lib.hid (exit_cnt (c := bits .and .i64 d1 255) hq)
          have HI2 := Lib.hid (exit_inv (c := bits .and .i64 d1 255) HI.out hq q1)
          clear hq q1
          go_wp2
          go_roundw
          case rel => exact ⟨k + 1, N, M, _, HKL.out, rfl, rfl, by go_num, HB3.out, HT3.out, HI2.out, by rw [HC2.out]; exact HC.out, by have := HNK.out; omega⟩
          case measure => have := HKL.out; simp [intOf]; omega
      · go_wp2_with fail
        refine (within_any _ 16 _ (by decide) (by decide)).mono ?_
        rintro e w2 ⟨rfl, rfl⟩
        rw [HP.out]
        go_wp2_with fail
        refine (within_any _ 3 _ (by decide) (by decide)).mono ?_
        rintro e w2 ⟨rfl, rfl⟩
        rw [HZ.out]
        go_wp2_with fail
        refine (wait_is _ HT2.out).mono ?_
        rintro e w3 ⟨r, c, en, t', rfl, hb3, ht3, hc⟩
        have HB3 := Lib.hid (HB2.out.trans hb3)
        have HT3 := Lib.hid ht3
        clear hb3 ht3
        rcases hc with ⟨hen, rfl, _⟩ | ⟨rfl, k', q, rfl, k1, _, _, k3, _, _, rfl, rfl⟩
        · have hen' : (en == 0) = false := by simp [hen]
          clear hen
          go_wp2
          go_roundw
          case rel => exact ⟨k + 1, N, M, t', HKL.out, rfl, rfl, by go_num, HB3.out, HT3.out, HI.out, HC.out, by have := HNK.out; omega⟩
          case measure => have := HKL.out; simp [intOf]; omega
        · have HC2 := Lib.hid (wait_cnt (wait_two HI.out k3) (by omega) k3)
          have HI2 := Lib.hid (wait_inv HI.out k3)
          clear k1 k3
          go_wp2
          go_roundw
          case rel => exact ⟨k + 1, N, M + 1, _, HKL.out, rfl, by go_num, by go_num, HB3.out, HT3.out, HI2.out, by have := HC2.out; have := HC.out; omega, by have := HNK.out; omega⟩
          case measure => have := HKL.out; simp [intOf]; omega
    · obtain rfl : k = len := by omega
      go_wp2
      refine bodyPost_ret (v := .tuple #[.pointer (some ⟨w.heap.size, 0, none⟩), .int .i64 N, .int .i64 M]) (by simp [results, Try.results44, go_sem]) rfl ⟨w.heap.size, t, N, M, rfl, hbel, HT.out, HI.out, hcnt, by omega, Nat.le_refl _⟩
end Go.Proofs.Ytgdihccmkleimaa.ProcLaw
