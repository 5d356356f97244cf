/- The walk of ringkeep5.ProcTree. -/
import Derived.Test.YtgdihccmkleimaaProcWorked
namespace Go.Proofs.Ytgdihccmkleimaa.ProcLaw
open Go.RowKit
set_option linter.unusedVariables false

theorem two0 (w : World) (T : TypeId) : ∀ i, i < [(0 : Int), 0].length → (w.alloc (.cells #[.int .i64 0, .int .i64 0] T)).cell? ⟨w.heap.size, i, none⟩ = some (.int .i64 ([(0 : Int), 0].getD i 0)) := by
  intro i hi
  rw [cell_of_row _ _ _ _ _ _ (heap_alloc_new _ _)]
  have : i = 0 ∨ i = 1 := by simp at hi; omega
  rcases this with rfl | rfl <;> rfl
/-- where one stands behind j steps upward -/
def Up (t : T) (r : Nat → Nat) (u j : Nat) : Prop := 1 ≤ u ∧ u ≤ 16 ∧ (t u).st ≠ 0 ∧ (u = 1 ∨ near t r u + j ≤ 15)
def Rank (t : T) (r : Nat → Nat) : Prop := r 1 = 0 ∧ ∀ k, 2 ≤ k → k ≤ 16 → (t k).st ≠ 0 → ∃ q : Nat, (t k).par = q ∧ 1 ≤ q ∧ q ≤ 16 ∧ (t q).st = 1 ∧ r q < r k
theorem up_first {t : T} {r : Nat → Nat} {k : Nat} (hi : Inv t) (h1 : 1 ≤ k) (h2 : k ≤ 16) (hs : (t k).st ≠ 0) : Up t r k 0 := ⟨h1, h2, hs, .inr (near_le hi.z h1 h2)⟩
theorem up_one {t : T} {r : Nat → Nat} {j : Nat} (h : Up t r 1 j) : Up t r 1 (j + 1) := ⟨h.1, h.2.1, h.2.2.1, .inl rfl⟩
theorem up_next {t : T} {r : Nat → Nat} {u q j : Nat} (h : Up t r u j) (hu : u ≠ 1) (q1 : 1 ≤ q) (q2 : q ≤ 16) (hs : (t q).st = 1) (hr : r q < r u) : Up t r q (j + 1) := by
  refine ⟨q1, q2, by rw [hs]; decide, .inr ?_⟩
  have h1 := near_up (t := t) (by omega) (by rw [hs]; decide) hr
  rcases h.2.2.2 with h | h
  · exact absurd h hu
  · omega
theorem up_last {t : T} {r : Nat → Nat} {u : Nat} (h : Up t r u 16) : u = 1 := by
  rcases h.2.2.2 with h | h
  · exact h
  · omega
set_option maxRecDepth 100000 in
set_option maxHeartbeats 4000000 in
theorem proctree_any {w : World} {v : Value} {len : Nat} {F : Nat → Nat → Int} (h : TabIn w 2 v len F) : Calls Try.prog 13 #[v] w fun e w' => e = .returned (.bool true) ∧ Below w.heap.size w w' := by
  have hwork := fun w' (hb : Below w.heap.size w w') => worked_is (w := w') (v := v) (len := len) (F := F) (by
    obtain ⟨a, cap, rfl, hl, hcap, h⟩ := h
    refine ⟨a, cap, rfl, hl, hcap, ?_⟩
    rcases h with h | ⟨b, off, ha, hlt, hF⟩
    · exact .inl h
    · exact .inr ⟨b, off, ha, Nat.lt_of_lt_of_le hlt hb.size, fun i hi j hj => ⟨(hb.cell (p := ⟨b, _, none⟩) hlt).trans (hF i hi j hj).1, (hF i hi j hj).2⟩⟩)
  have HW := Lib.hid hwork
  clear hwork h
  go_enter Try.func13, Try.ntmps13
  go_wp2_with fail
  refine (procs_any _).mono ?_
  rintro e w1 ⟨rfl, hb1⟩
  go_wp2_with fail
  refine (HW.out _ hb1).mono ?_
  rintro e w2 ⟨b, t, N, M, rfl, hb2, ht, hi, hcnt, hN, _⟩
  have HB2 := Lib.hid (hb1.trans (hb2.mono hb1.size))
  have HT := Lib.hid ht
  have HI := Lib.hid hi
  obtain ⟨r, hr⟩ := hi.r
  have HR := Lib.hid (show Rank t r from hr)
  clear hb1 hb2 ht hi hcnt hN hr
  go_wp2_with fail
  go_loopw [6] (fun iv wr => ∃ k : Nat, 2 ≤ k ∧ k ≤ 17 ∧ iv = .int .i64 k ∧ Below w2.heap.size w2 wr) (fun iv _ => 17 - (intOf iv).toNat)
  case atStart => exact ⟨2, by omega, by omega, rfl, Below.refl _ _⟩
  case round =>
    obtain ⟨k, k2, k17, rfl, hbel⟩ := hrel
    by_cases hlt : k ≤ 16
    · have hst := state_is (HT.out.keep hbel) (k := k) (by omega) hlt
      have HBE := Lib.hid hbel
      have HKK := Lib.hid (And.intro k2 hlt)
      clear hbel k17
      by_cases hs : (t k).st = 0
      · rw [hs] at hst
        have HST := Lib.hid hst
        clear hst hs
        go_wp2_with fail
        refine HST.out.mono ?_
        rintro e w3 ⟨rfl, rfl⟩
        go_wp2
        go_roundw
        case rel => exact ⟨k + 1, by omega, by omega, by go_num, HBE.out⟩
        case measure => simp [intOf]; omega
      · have hs' : ((t k).st == 0) = false := by simp [hs]
        have HST := Lib.hid hst
        have HU := Lib.hid (up_first (r := r) HI.out (by omega) hlt hs)
        clear hst hs
        obtain ⟨wo, rfl⟩ : ∃ wo : World, wo = wr := ⟨_, rfl⟩
        go_wp2_with fail
        refine HST.out.mono ?_
        rintro e w3 ⟨rfl, rfl⟩
        go_wp2_with fail
        go_loopw [9, 41] (fun uv iv wr => ∃ u j : Nat, j ≤ 16 ∧ uv = .int .i64 u ∧ iv = .int .i64 j ∧ Below w2.heap.size w2 wr ∧ Hid (Up t r u j)) (fun _ iv _ => 16 - (intOf iv).toNat)
        case atStart => exact ⟨k, 0, by omega, rfl, rfl, HBE.out, HU.out⟩
        case round =>
          obtain ⟨u, j, hj, rfl, rfl, hbel, HUP⟩ := hrel
          by_cases hjl : j < 16
          · have HJL := Lib.hid hjl
            by_cases hu : u = 1
            · subst hu
              go_wp2
              go_roundw
              case rel => exact ⟨1, j + 1, HJL.out, rfl, by go_num, hbel, up_one HUP.out⟩
              case measure => have := HJL.out; simp [intOf]; omega
            · have hu' : ((u : Int) != 1) = true := by simp; omega
              have hup := HUP.out
              obtain ⟨q, q1, q2, q3, q4, q5⟩ := HR.out.2 u (by have := hup.1; omega) hup.2.1 hup.2.2.1
              have hpar := parent_is (HT.out.keep hbel) hup.1 hup.2.1 hup.2.2.1
              have hsq := state_is (HT.out.keep hbel) q2 q3
              rw [q1] at hpar
              rw [q4] at hsq
              have HPAR := Lib.hid hpar
              have HSQ := Lib.hid hsq
              have HNX := Lib.hid (up_next hup hu q2 q3 q4 q5)
              have HBL := Lib.hid hbel
              clear hu hup q1 q2 q3 q4 q5 hpar hsq hbel
              go_wp2_with fail
              refine HPAR.out.mono ?_
              rintro e w4 ⟨rfl, rfl⟩
              go_wp2_with fail
              refine HSQ.out.mono ?_
              rintro e w4 ⟨rfl, rfl⟩
              go_wp2_with fail
              refine (good_any _ _ [0, 0] _ (by simp) (two0 _ _)).mono ?_
              rintro e w5 ⟨rfl, rfl⟩
              rw [show ([(0 : Int), 0].all (· == 0)) = true from rfl]
              go_wp2
              go_roundw
              case rel => exact ⟨q, j + 1, HJL.out, rfl, by go_num, HBL.out.alloc HBL.out.size _, HNX.out⟩
              case measure => have := HJL.out; simp [intOf]; omega
          · obtain rfl : j = 16 := by omega
            obtain rfl := up_last HUP.out
            have HBL := Lib.hid hbel
            clear hbel hjl hj
            go_wp2
            go_roundw
            case rel => exact ⟨k + 1, by have := HKK.out; omega, by have := HKK.out; omega, by go_num, HBL.out⟩
            case measure => have := HKK.out; simp [intOf]; omega
    · obtain rfl : k = 17 := by omega
      have hst := state_is (HT.out.keep hbel) (k := 1) (by omega) (by omega)
      rw [HI.out.o] at hst
      have HST := Lib.hid hst
      have HBE := Lib.hid hbel
      clear hst hbel
      go_wp2_with fail
      refine HST.out.mono ?_
      rintro e w3 ⟨rfl, rfl⟩
      go_wp2
      go_ret
      exact ⟨rfl, HB2.out.trans (HBE.out.mono HB2.out.size)⟩
end Go.Proofs.Ytgdihccmkleimaa.ProcLaw
