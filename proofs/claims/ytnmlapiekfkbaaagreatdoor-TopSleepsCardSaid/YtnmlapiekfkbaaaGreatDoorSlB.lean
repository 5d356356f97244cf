/- The walks of proc.Exit, proc.Wait. Walks of parts of a process's end and of its birth: open.Drop at no descriptors, wheel.Out at no timers, sig.Child, Send, Next. The walks of package wheel with one timer: Add at none. -/
import Derived.Test.YtnmlapiekfkbaaaGreatDoorProcFork
import Derived.Test.YtnmlapiekfkbaaaGreatDoorSigTake
import Derived.Test.YtnmlapiekfkbaaaGreatDoorBegin
import Derived.Test.YtnmlapiekfkbaaaGreatDoorWhA
namespace Go.Proofs.YtnmlapiekfkbaaaGreatDoor.ProcLaw
set_option linter.unusedSimpArgs false
open Go.RowKit
set_option linter.unusedVariables false

def ExitPost (t : T) (b : Nat) (p c : Int) (w : World) (e : Ending) (w' : World) : Prop :=
  ∃ r en t', e = .returned (.tuple #[.int .i64 r, .int .i64 en]) ∧ Upd (fun k => k = b) w w' ∧ TabAt w' b t' ∧
    ((en ≠ 0 ∧ t' = t ∧ (livR t p ≠ 0 ∨ p = 1)) ∨ (en = 0 ∧ ∃ q : Nat, p = q ∧ alive t q ∧ q ≠ 1 ∧ t' = ended t q (bits .and .i64 c 255) ∧ r = (t' q).par))
theorem orphan_yes {p : Nat} {e : E} (h : e.st ≠ 0) (h2 : e.par = p) : orphan p e = ⟨e.st, 1, e.gr, e.code⟩ := if_pos ⟨h, h2⟩
theorem orphan_no {p : Nat} {e : E} (h : ¬ (e.st ≠ 0 ∧ e.par = p)) : orphan p e = e := if_neg h
theorem lost_stay {t : T} {p k : Nat} (h : ¬ ((t k).st ≠ 0 ∧ (t k).par = p)) : lost t p (k + 1) = lost t p k := by
  rw [lost_next, orphan_no h]
  funext j
  by_cases e : j = k
  · subst e; rw [updE_same, lost_at]
  · rw [updE_other _ _ e]
theorem lost_go {t : T} {p k : Nat} (h : (t k).st ≠ 0) (h2 : (t k).par = p) : lost t p (k + 1) = updE (lost t p k) k ⟨(t k).st, 1, (t k).gr, (t k).code⟩ := by
  rw [lost_next, orphan_yes h h2]
theorem ended_at {t : T} {q : Nat} {c : Int} : updE (lost t q 17) q ⟨2, (lost t q 17 q).par, (lost t q 17 q).gr, c⟩ = ended t q c := rfl
theorem TabAt.endA {w : World} {b q : Nat} {t : T} {c : Int} (h : TabAt w b (lost t q 17)) (hq : q < 17) : TabAt ((w.setCell ⟨b, q * 4, none⟩ (.int .i64 2)).setCell ⟨b, q * 4 + 3, none⟩ (.int .i64 c)) b (ended t q c) := by
  have h2 := (h.setSt hq 2).setCode hq c
  rw [updE_same, updE_twice] at h2
  exact h2
theorem TabAt.endB {w : World} {b q : Nat} {t : T} {c : Int} (h : TabAt w b (lost t q 17)) (hq : q < 17) : TabAt ((w.setCell ⟨b, q * 4 + 3, none⟩ (.int .i64 c)).setCell ⟨b, q * 4, none⟩ (.int .i64 2)) b (ended t q c) := by
  have h2 := (h.setCode hq c).setSt hq 2
  rw [updE_same, updE_twice] at h2
  exact h2

set_option maxRecDepth 100000 in
set_option maxHeartbeats 4000000 in
theorem exit_is {w : World} {b : Nat} {t : T} (p c : Int) (h : TabAt w b t) : Calls Tryz.prog 106 #[.pointer (some ⟨b, 0, none⟩), .int .i64 p, .int .i64 c] w (ExitPost t b p c w) := by
  have HL := Lib.hid (living_is p h)
  have HT := Lib.hid h
  by_cases hl : livR t p = 0
  · obtain ⟨q, rfl, ha⟩ := livR_zero hl
    have HA := Lib.hid ha
    have HZ := Lib.hid hl
    obtain ⟨q1, q2, q3⟩ := ha
    have hq : (q : Int) < 17 := by omega
    clear hl q3 h
    by_cases h1 : q = 1
    · subst h1
      go_enter Tryz.func106, Tryz.ntmps106
      go_wp2_with fail
      refine HL.out.mono ?_
      rintro e w1 ⟨rfl, rfl⟩
      rw [HZ.out]
      go_wp2
      go_ret2
      exact ⟨0, 7, t, rfl, Upd.refl _ _, HT.out, .inl ⟨by decide, rfl, .inr rfl⟩⟩
    · have h1' : ((q : Int) == 1) = false := by simp; omega
      have H1 := Lib.hid h1
      clear h1
      go_enter Tryz.func106, Tryz.ntmps106
      go_wp2_with fail
      refine HL.out.mono ?_
      rintro e w1 ⟨rfl, rfl⟩
      rw [HZ.out]
      go_wp2
      go_loopw [18] (fun i wr => ∃ k : Nat, k ≤ 17 ∧ i = .int .i64 k ∧ Upd (fun k => k = b) w wr ∧ Hid (TabAt wr b (lost t q k))) (fun i _ => 17 - (intOf i).toNat)
      case atStart => exact ⟨0, by omega, rfl, Upd.refl _ _, by rw [lost_zero]; exact HT.out⟩
      case round =>
        obtain ⟨k, k2, rfl, hbel, HK⟩ := hrel
        by_cases hlt : k < 17
        · have hk : (k : Int) < 17 := by omega
          have c0 := HK.out.st k (by omega)
          have c1 := HK.out.par k (by omega)
          have f1 := HK.out.fz (k * 4 + 1)
          rw [lost_at] at c0 c1
          have HLT := Lib.hid hlt
          by_cases hs : (t k).st = 0
          · have HS := Lib.hid hs
            rw [hs] at c0
            clear hs
            go_wp2
            go_roundw
            case rel => exact ⟨k + 1, by omega, by go_num, hbel, by rw [lost_stay (fun h => h.1 HS.out)]; exact HK.out⟩
            case measure => simp [intOf]; omega
          · have hs' : ((t k).st != 0) = true := by simp [hs]
            have HS := Lib.hid hs
            clear hs
            by_cases hp : (t k).par = q
            · have HP := Lib.hid hp
              have hp' : ((t k).par == (q : Int)) = true := by simp [hp]
              have hset : TabAt (wr.setCell ⟨b, k * 4 + 1, none⟩ (.int .i64 1)) b (lost t q (k + 1)) := by
                rw [lost_go HS.out hp]
                have := HK.out.setPar (k := k) (by omega) 1
                rwa [lost_at] at this
              have HSET := Lib.hid hset
              clear hp hset
              go_wp2
              go_roundw
              case rel => exact ⟨k + 1, by omega, by go_num, hbel.trans (Upd.set _ _ rfl), HSET.out⟩
              case measure => simp [intOf]; omega
            · have hp' : ((t k).par == (q : Int)) = false := by simp [hp]
              have HP := Lib.hid hp
              clear hp
              go_wp2
              go_roundw
              case rel => exact ⟨k + 1, by omega, by go_num, hbel, by rw [lost_stay (fun h => HP.out h.2)]; exact HK.out⟩
              case measure => simp [intOf]; omega
        · obtain rfl : k = 17 := by omega
          have c0 := HK.out.st q (by omega)
          have c1 := HK.out.par q (by omega)
          have c3 := HK.out.code q (by omega)
          have f0 := HK.out.fz (q * 4)
          have f3 := HK.out.fz (q * 4 + 3)
          clear hlt k2
          go_wp2_with fail
          go_region
          all_goals
            go_wp2
            go_ret2
            refine ⟨_, 0, ended t q (bits .and .i64 c 255), rfl, ?_, ?_, .inr ⟨rfl, q, rfl, HA.out, H1.out, rfl, ?_⟩⟩
            · repeat (first | exact Upd.refl _ _ | refine Upd.trans ?_ (Upd.drew _) | refine Upd.trans ?_ (Upd.set _ _ rfl))
              exact hbel
            · first | exact (HK.out.endA (by omega)).drew | exact HK.out.drew.endA (by omega) | exact (HK.out.endB (by omega)).drew | exact HK.out.drew.endB (by omega)
            · rw [ended, updE_same]
  · have hl' : (livR t p != 0) = true := by simp [hl]
    have HZ := Lib.hid hl
    clear hl h
    generalize hx : livR t p = x at *
    go_enter Tryz.func106, Tryz.ntmps106
    go_wp2_with fail
    refine HL.out.mono ?_
    rintro e w1 ⟨rfl, rfl⟩
    go_wp2
    go_ret2
    exact ⟨0, x, t, rfl, Upd.refl _ _, HT.out, .inl ⟨HZ.out, rfl, .inl (by rw [hx]; exact HZ.out)⟩⟩

def WaitPost (t : T) (b : Nat) (p : Int) (w : World) (e : Ending) (w' : World) : Prop :=
  ∃ r c en t', e = .returned (.tuple #[.int .i64 r, .int .i64 c, .int .i64 en]) ∧ Upd (fun k => k = b) w w' ∧ TabAt w' b t' ∧
    ((en ≠ 0 ∧ t' = t ∧ (livR t p ≠ 0 ∨ (∀ j, j < 17 → ¬ ((t j).par = p ∧ (t j).st = 2)) ∧ (en = 9 ∧ (∃ j, j < 17 ∧ (t j).st ≠ 0 ∧ (t j).par = p) ∨ en = 4 ∧ ¬ ∃ j, j < 17 ∧ (t j).st ≠ 0 ∧ (t j).par = p))) ∨ (en = 0 ∧ ∃ k q : Nat, r = k ∧ k < 17 ∧ p = q ∧ alive t q ∧ (t k).st = 2 ∧ (t k).par = q ∧ (∀ j, j < k → ¬ ((t j).par = p ∧ (t j).st = 2)) ∧ c = (t k).code ∧ t' = updE t k e0))
set_option maxRecDepth 100000 in
set_option maxHeartbeats 4000000 in
theorem wait_is {w : World} {b : Nat} {t : T} (p : Int) (h : TabAt w b t) : Calls Tryz.prog 130 #[.pointer (some ⟨b, 0, none⟩), .int .i64 p] w (WaitPost t b p w) := by
  have HL := Lib.hid (living_is p h)
  have HT := Lib.hid h
  by_cases hl : livR t p = 0
  · obtain ⟨q, rfl, ha⟩ := livR_zero hl
    have HA := Lib.hid ha
    have HZ := Lib.hid hl
    clear hl h ha
    go_enter Tryz.func130, Tryz.ntmps130
    go_wp2_with fail
    refine HL.out.mono ?_
    rintro e w1 ⟨rfl, rfl⟩
    rw [HZ.out]
    go_wp2
    go_loop [8, 17] (fun s i => ∃ (k : Nat) (z : Bool), k ≤ 17 ∧ s = .bool z ∧ i = .int .i64 k ∧ Hid (∀ j, j < k → ¬ ((t j).par = (q : Int) ∧ (t j).st = 2)) ∧ Hid (z = true ↔ ∃ j, j < k ∧ (t j).st ≠ 0 ∧ (t j).par = (q : Int))) (fun _ i => 17 - (intOf i).toNat)
    case atStart => exact ⟨0, false, by omega, rfl, rfl, Lib.hid (fun j h2 => absurd h2 (by omega)), Lib.hid ⟨fun e => (by cases e), fun ⟨j, h, _⟩ => absurd h (by omega)⟩⟩
    case round =>
      obtain ⟨k, z, k2, rfl, rfl, HK, HZ2⟩ := hrel
      by_cases hlt : k < 17
      · have hk : (k : Int) < 17 := by omega
        have c0 := HT.out.st k (by omega)
        have c1 := HT.out.par k (by omega)
        have hnext : ¬ ((t k).par = (q : Int) ∧ (t k).st = 2) → ∀ j, j < k + 1 → ¬ ((t j).par = (q : Int) ∧ (t j).st = 2) := fun hn j hj => by
          rcases Nat.lt_succ_iff_lt_or_eq.1 hj with h | rfl
          · exact HK.out j h
          · exact hn
        have HNX := Lib.hid hnext
        clear hnext
        have HSA : Hid (¬ ((t k).st ≠ 0 ∧ (t k).par = (q : Int)) → (z = true ↔ ∃ j, j < k + 1 ∧ (t j).st ≠ 0 ∧ (t j).par = (q : Int))) := Lib.hid (fun hn => by
          rw [HZ2.out]
          constructor
          · rintro ⟨j, h1, h2⟩; exact ⟨j, by omega, h2⟩
          · rintro ⟨j, h1, h2⟩
            rcases Nat.lt_succ_iff_lt_or_eq.1 h1 with h | rfl
            · exact ⟨j, h, h2⟩
            · exact absurd h2 hn)
        by_cases hs : (t k).st = 0
        · have HS := Lib.hid hs
          rw [hs] at c0
          clear hs
          go_wp2
          go_round
          case rel => exact ⟨k + 1, z, by omega, rfl, by go_num, Lib.hid (HNX.out (fun h => by rw [HS.out] at h; cases h.2)), Lib.hid (HSA.out (fun h => h.1 HS.out))⟩
          case measure => simp [intOf]; omega
        · have hs' : ((t k).st == 0) = false := by simp [hs]
          have HS := Lib.hid hs
          clear hs
          by_cases hp : (t k).par = q
          · have HP := Lib.hid hp
            rw [hp] at c1
            clear hp
            by_cases h2 : (t k).st = 2
            · have H2 := Lib.hid h2
              rw [h2] at c0 hs'
              have c2 := HT.out.gr k (by omega)
              have c3 := HT.out.code k (by omega)
              have f0 := HT.out.fz (k * 4)
              have f1 := HT.out.fz (k * 4 + 1)
              have f2 := HT.out.fz (k * 4 + 2)
              have f3 := HT.out.fz (k * 4 + 3)
              have HLT := Lib.hid hlt
              clear h2
              go_wp2
              refine bodyPost_ret (v := .tuple #[.int .i64 k, .int .i64 (t k).code, .int .i64 0]) (by simp [results, Tryz.results130, go_sem]) rfl ⟨k, (t k).code, 0, updE t k e0, rfl, ?_, ?_, .inr ⟨rfl, k, q, rfl, HLT.out, rfl, HA.out, H2.out, HP.out, HK.out, rfl, rfl⟩⟩
              · repeat (first | exact Upd.refl _ _ | refine Upd.trans ?_ (Upd.drew _) | refine Upd.trans ?_ (Upd.set _ _ rfl))
              · exact HT.out.set4 (by omega) 0 0 0 0
            · have h2' : ((t k).st == 2) = false := by simp [h2]
              have H2 := Lib.hid h2
              clear h2
              go_wp2
              go_round
              case rel => exact ⟨k + 1, true, by omega, rfl, by go_num, Lib.hid (HNX.out (fun h => H2.out h.2)), Lib.hid ⟨fun _ => ⟨k, by omega, HS.out, HP.out⟩, fun _ => rfl⟩⟩
              case measure => simp [intOf]; omega
          · have hp' : ((t k).par != (q : Int)) = true := by simp [hp]
            have HP := Lib.hid hp
            clear hp
            go_wp2
            go_round
            case rel => exact ⟨k + 1, z, by omega, rfl, by go_num, Lib.hid (HNX.out (fun h => HP.out h.1)), Lib.hid (HSA.out (fun h => HP.out h.2))⟩
            case measure => simp [intOf]; omega
      · obtain rfl : k = 17 := by omega
        cases z
        · go_wp2
          refine bodyPost_ret (v := .tuple #[.int .i64 0, .int .i64 0, .int .i64 4]) (by simp [results, Tryz.results130, go_sem]) rfl ⟨0, 0, 4, t, rfl, Upd.refl _ _, HT.out, .inl ⟨by decide, rfl, .inr ⟨HK.out, .inr ⟨rfl, fun e => by have := HZ2.out.2 e; cases this⟩⟩⟩⟩
        · go_wp2
          refine bodyPost_ret (v := .tuple #[.int .i64 0, .int .i64 0, .int .i64 9]) (by simp [results, Tryz.results130, go_sem]) rfl ⟨0, 0, 9, t, rfl, Upd.refl _ _, HT.out, .inl ⟨by decide, rfl, .inr ⟨HK.out, .inl ⟨rfl, HZ2.out.1 trivial⟩⟩⟩⟩
  · have hl' : (livR t p != 0) = true := by simp [hl]
    have HZ := Lib.hid hl
    clear hl h
    generalize hx : livR t p = x at *
    go_enter Tryz.func130, Tryz.ntmps130
    go_wp2_with fail
    refine HL.out.mono ?_
    rintro e w1 ⟨rfl, rfl⟩
    go_wp2
    refine bodyPost_ret (v := .tuple #[.int .i64 0, .int .i64 0, .int .i64 x]) (by simp [results, Tryz.results130, go_sem]) rfl ⟨0, 0, x, t, rfl, Upd.refl _ _, HT.out, .inl ⟨HZ.out, rfl, .inl (by rw [hx]; exact HZ.out)⟩⟩
end Go.Proofs.YtnmlapiekfkbaaaGreatDoor.ProcLaw
namespace Go.Proofs.YtnmlapiekfkbaaaGreatDoor.OpenLaw
open Go.RowKit
set_option linter.unusedVariables false
set_option linter.unusedSimpArgs false
def z5 : Array Value := #[.int .i64 0, .int .i64 0, .int .i64 0, .bool false, .int .i64 0]
set_option maxRecDepth 100000 in
set_option maxHeartbeats 400000 in
theorem close_none {w : World} {b p j : Nat} {fs : Nat → F} {fd : Nat → Nat} (h : OTab w b fs fd) (h1 : 1 ≤ p) (h2 : p ≤ 16) (hj : j < 8) (hx : fd (p * 8 + j) = 0) : Calls Tryz.prog 113 #[.pointer (some ⟨b, 0, none⟩), .int .i64 p, .int .i64 j] w fun e w' => e = .returned (.tuple #[.agg z5, .bool false, .int .i64 4]) ∧ Below w.heap.size w w' := by
  have HF := Lib.hid (find_none (h.alloc (.cells z5 208)) h1 h2 hj hx)
  have HH := Lib.hid (h.alloc (.cells z5 208))
  have HB := Lib.hid (Go.Joins.below_alloc1 w (.cells z5 208))
  have HR := Lib.hid (has_new w [.int .i64 0, .int .i64 0, .int .i64 0, .bool false, .int .i64 0] 208)
  have HZ := Lib.hid (fun i => frozen_new w z5 208 i)
  clear hx h h1 h2 hj
  go_enter Tryz.func113, Tryz.ntmps113
  go_wp2_with fail
  refine HF.out.mono ?_
  rintro e w1 ⟨rfl, hb1⟩
  have R := HR.out.keep hb1
  have r0 := R.2 0 _ rfl
  have r1 := R.2 1 _ rfl
  have r2 := R.2 2 _ rfl
  have r3 := R.2 3 _ rfl
  have r4 := R.2 4 _ rfl
  have z : ∀ i, w1.frozen? ⟨w.heap.size, i, none⟩ = false := fun i => (hb1.frozen (p := ⟨w.heap.size, i, none⟩) (by simp)).trans (HZ.out i)
  have HK := Lib.hid (Below.trans HB.out (hb1.mono (by simp)))
  clear R hb1
  go_wp2
  refine bodyPost_ret (v := .tuple #[.agg z5, .bool false, .int .i64 4]) (by rw [results_cell3 rfl]; go_simp; (try rfl)) rfl ⟨rfl, ?_⟩
  exact ((((HK.out.setCell (p := ⟨_, _, none⟩) (Nat.le_refl _) _).setCell (p := ⟨_, _, none⟩) (Nat.le_refl _) _).setCell (p := ⟨_, _, none⟩) (Nat.le_refl _) _).setCell (p := ⟨_, _, none⟩) (Nat.le_refl _) _).setCell (p := ⟨_, _, none⟩) (Nat.le_refl _) _
set_option maxRecDepth 100000 in
set_option maxHeartbeats 400000 in
theorem dropE_is {w : World} {b p : Nat} {fs : Nat → F} {fd : Nat → Nat} (h : OTab w b fs fd) (h1 : 1 ≤ p) (h2 : p ≤ 16) (hz : ∀ j, j < 8 → fd (p * 8 + j) = 0) : Calls Tryz.prog 107 #[.pointer (some ⟨b, 0, none⟩), .int .i64 p] w fun e w' => e = .returned (.tuple #[.slice none 0 0, .int .i64 0]) ∧ Below w.heap.size w w' := by
  have HO := Lib.hid (owner_is h1 h2 w)
  have HH := Lib.hid h
  have HC := Lib.hid (fun (w0 : World) (t : OTab w0 b fs fd) (j : Nat) (hj : j < 8) => close_none t h1 h2 hj (hz j hj))
  clear h hz
  go_enter Tryz.func107, Tryz.ntmps107
  go_upto_region 4 with (go_at_call 188; refine HO.out.mono ?_; rintro e w1 ⟨rfl, rfl⟩)
  go_wp2_with fail
  go_loopw [6, 14] (fun lv iv wr => ∃ k : Nat, k ≤ 8 ∧ iv = .int .i64 k ∧ lv = .slice none 0 0 ∧ Hid (Below w.heap.size w wr)) (fun _ iv _ => 8 - (intOf iv).toNat)
  case atStart => exact ⟨0, by omega, rfl, rfl, Lib.hid (Below.refl _ _)⟩
  case round =>
    obtain ⟨k, hk, rfl, rfl, HB⟩ := hrel
    by_cases hlt : k < 8
    · have hki : (k : Int) < 8 := by omega
      have HCL := Lib.hid (HC.out wr (HH.out.keep HB.out) k hlt)
      clear hlt
      go_wp2_with (go_at_call 113; refine HCL.out.mono ?_; rintro e3 w3 ⟨rfl, hb3⟩; have HB3 := Lib.hid (HB.out.trans (hb3.mono HB.out.size)); clear hb3; unfold z5)
      have HB4 : Hid (Below w.heap.size w (w3.alloc (.cells z5 208))) := Lib.hid (HB3.out.trans ((Go.Joins.below_alloc1 w3 _).mono HB3.out.size))
      go_roundw
      case rel => exact ⟨k + 1, by omega, by go_num, rfl, HB4⟩
      case measure => simp [intOf]; omega
    · obtain rfl : k = 8 := by omega
      go_wp2_with fail
      go_ret2
      exact ⟨rfl, HB.out⟩
end Go.Proofs.YtnmlapiekfkbaaaGreatDoor.OpenLaw
namespace Go.Proofs.YtnmlapiekfkbaaaGreatDoor.SigLaw
set_option linter.unusedSimpArgs false
open Go.RowKit
set_option linter.unusedVariables false
attribute [local go_sem ↓] load58_eq store58_eq zero58 cells58
theorem zeroG_bb : BB zeroG := ⟨⟨by decide, by decide⟩, by decide, by decide⟩
theorem zeroG_right : Right zeroG 0 0 := by constructor <;> first | rfl | decide | (intro i hi; simp [zeroG])
theorem zeroG_good : good zeroG := ⟨0, 0, zeroG_right⟩
set_option maxRecDepth 100000 in
set_option maxHeartbeats 1000000 in
theorem child_is (w : World) : Calls Tryz.prog 217 #[.agg (cellsA zeroG), .bool false] w fun e w' => e = .returned (.tuple #[.agg (cellsA zeroG), .int .i64 0]) ∧ Below w.heap.size w w' := by
  have HC := Lib.hid (check_b zeroG ((w.alloc (.cells (cellsA zeroG) 64)).alloc (.cells (cellsA zeroG) 64)) zeroG_bb)
  have HT := Lib.hid (two_new w zeroG)
  have hl := (two_new w zeroG).R.load
  go_enter Tryz.func217, Tryz.ntmps217
  go_wp2_with fail
  refine HC.out.mono ?_
  rintro e w1 ⟨en, rfl, hb1, hcase⟩
  have HT1 := Lib.hid (HT.out.keep hb1)
  clear hb1 hl HC HT
  rcases hcase with ⟨rfl, -⟩ | ⟨-, hg⟩
  · have HT2 : Hid (Two w (w1.setCell ⟨w.heap.size, 0, none⟩ (.int .i64 0)) w.heap.size (w.heap.size + 1) zeroG zeroG) := Lib.hid (HT1.out.setP 0)
    have c0 := HT1.out.R.c0
    have f0 := HT1.out.R.fz 0
    have hl := HT2.out.R.load
    have hz := HT2.out.Z.store zeroG
    go_wp2
    exact bodyPost_ret (v := .tuple #[.agg (cellsA zeroG), .int .i64 0]) (by rw [results_cell_tmp rfl]; simp [asAddr, Result.andThen, (HT2.out.store zeroG).Z.loadVar]) rfl ⟨rfl, (HT2.out.store zeroG).B⟩
  · exact absurd zeroG_good hg
/-- a child's end makes nothing of a set without signals -/
theorem send7_is (w : World) : Calls Tryz.prog 63 #[.agg (cellsA zeroG), .int .i64 7] w fun e w' => e = .returned (.tuple #[.agg (cellsA zeroG), .int .i64 0]) ∧ Below w.heap.size w w' := by
  refine (send_is zeroG 7 w zeroG_bb).mono ?_
  rintro e w' ⟨en, g', rfl, hb, ⟨rfl, k, P, M, hk, h1, h2, hr, rfl⟩ | ⟨-, -, hn⟩⟩
  · obtain rfl : k = 7 := by omega
    have hP : P = 0 := by have := hr.p; simp [zeroG] at this; omega
    subst hP
    have : sentP zeroG 0 7 = 0 := sentP_pos (.inr ⟨rfl, rfl⟩)
    rw [this]
    exact ⟨rfl, hb⟩
  · exact absurd ⟨zeroG_good, by decide, by decide⟩ hn
end Go.Proofs.YtnmlapiekfkbaaaGreatDoor.SigLaw
namespace Go.Proofs.YtnmlapiekfkbaaaGreatDoor
open Go.RowKit
set_option linter.unusedVariables false
set_option linter.unusedSimpArgs false
def whA : Array Value := #[.int .u32 0, .slice none 0 0]
set_option maxRecDepth 100000 in
set_option maxHeartbeats 400000 in
theorem idx0_is (w : World) (c : Addr) : Calls Tryz.prog 228 #[.slice none 0 0, .func (.func 229) #[] #[.pointer (some c)]] w fun e w' => e = .returned (.int .i64 (-1)) ∧ w = w' := by
  go_enter Tryz.func228, Tryz.ntmps228
  go_wp2_with fail
  refine wp_loop_rounds 1 ?_
  rw [rounds_succ]
  go_wp2_with fail
  go_ret
  exact ⟨rfl, rfl⟩
set_option maxRecDepth 100000 in
set_option maxHeartbeats 400000 in
theorem wfind0_is {w : World} {Wh : Nat} {nw : Value} (h : Row w Wh 150 #[nw, .slice none 0 0]) (p : Int) : Calls Tryz.prog 146 #[.pointer (some ⟨Wh, 0, none⟩), .int .i64 p] w fun e w' => e = .returned (.int .i64 (-1)) ∧ Below w.heap.size w w' := by
  have hmf : ∀ (fn : Fn) (first cap : Array Value) (w : World), (Instr.makeFunc fn first cap).run Tryz.prog w = .ok (.func fn first cap) w := fun _ _ _ _ => rfl
  have hal := Go.Joins.below_alloc1 w (.cells #[.int .i64 p] 3)
  have c1 : (w.alloc (.cells #[.int .i64 p] 3)).cell? ⟨Wh, 1, none⟩ = some (.slice none 0 0) := by rw [(h.keep hal).cell]; rfl
  have HI := Lib.hid (idx0_is (w.alloc (.cells #[.int .i64 p] 3)) ⟨w.heap.size, 0, none⟩)
  have HB := Lib.hid hal
  clear h hal
  go_enter Tryz.func146, Tryz.ntmps146
  go_wp2_with (go_at_call 228; refine HI.out.mono ?_; rintro e1 w1 ⟨rfl, rfl⟩)
  go_ret
  exact ⟨rfl, HB.out⟩
set_option maxRecDepth 100000 in
set_option maxHeartbeats 400000 in
theorem wout0_is {w : World} {Wh : Nat} {nw : Value} (h : Row w Wh 150 #[nw, .slice none 0 0]) (p : Int) : Calls Tryz.prog 65 #[.pointer (some ⟨Wh, 0, none⟩), .int .i64 p] w fun e w' => e = .returned (.int .i64 4) ∧ Below w.heap.size w w' := by
  have HF := Lib.hid (wfind0_is h p)
  clear h
  go_enter Tryz.func65, Tryz.ntmps65
  go_wp2_with (go_at_call 146; refine HF.out.mono ?_; rintro e1 w1 ⟨rfl, hb1⟩; have HB1 := Lib.hid hb1; clear hb1)
  go_ret
  exact ⟨rfl, HB1.out⟩
end Go.Proofs.YtnmlapiekfkbaaaGreatDoor
namespace Go.Proofs.YtnmlapiekfkbaaaGreatDoor
open Go.RowKit
set_option linter.unusedVariables false
set_option linter.unusedSimpArgs false
theorem infoTM : (Tryz.prog.info? 152).map (fun i => (i.zero, i.size, i.bytes)) = some (some (.agg #[.int .u32 0, .int .i64 0]), 2, 16) := by kernel_rfl
def apTM := Builtin.append_ #[148, 148] 148
theorem apTM_eq : Builtin.append_ #[148, 148] 148 = apTM := rfl
attribute [local go_sem ↓] apTM_eq
set_option maxRecDepth 100000 in
set_option maxHeartbeats 400000 in
theorem insert0_is {w : World} {g : Nat} {a p : Int} (h : Row w g 152 #[.int .u32 a, .int .i64 p]) : Calls Tryz.prog 292 #[.slice none 0 0, .int .i64 0, .slice (some ⟨g, 0, none⟩) 1 1] w fun e w' => ∃ q c, e = .returned (.slice q 1 c) ∧ w'.ownsRow w.heap.size 152 2 (.slice q 1 c) 1 (tmC [(a, p)]) ∧ Below w.heap.size w w' := by
  obtain ⟨i0, i1, hz0, hz1, hz2⟩ := info_parts infoTM
  have hsrc : ∀ j u, ([.int .u32 a, .int .i64 p] : List Value)[j]? = some u → w.cell? ((⟨g, 0, none⟩ : Addr).add j) = some u := fun j u hj => by
    rw [Addr.add_lit, Nat.zero_add, h.cell]
    simpa using hj
  obtain ⟨v', w', hr, ho, hg, -⟩ := run_append_fresh (P := Tryz.prog) w w.heap.size 148 148 152 i0 (.agg #[.int .u32 0, .int .i64 0]) 2 16 Tryz.underlying148 i1 hz0 hz1 hz2 rfl (by decide) (.slice none 0 0) 0 [] (World.ownsRow_nil _ _ _ _) ⟨g, 0, none⟩ 1 1 [.int .u32 a, .int .i64 p] rfl hsrc (by simp [Value.oneCell']) (by decide) (by decide) (Nat.le_refl _)
  obtain ⟨q, c, rfl⟩ := own_form ho
  have hap : (apTM #[.slice none 0 0, .slice (some ⟨g, 0, none⟩) 1 1]).run Tryz.prog w = .ok (.slice q 1 c) w' := hr
  have HO := Lib.hid ho
  have HB := Lib.hid ((Below.refl w.heap.size w).grown hg (Nat.le_refl _) (fun k e => by cases e))
  clear h hsrc hr ho hg hz0 hz1 hz2 i1
  go_enter Tryz.func292, Tryz.ntmps292
  go_wp2_with fail
  go_ret
  exact ⟨q, c, rfl, HO.out, HB.out⟩
set_option maxRecDepth 100000 in
set_option maxHeartbeats 1000000 in
theorem wadd0_is {w : World} {Wh : Nat} {a b p : Int} (h : WhlG w Wh a (.slice none 0 0) []) (a0 : 0 ≤ a) (ab : a ≤ b) (b1 : b < 1000000000) : Calls Tryz.prog 222 #[.pointer (some ⟨Wh, 0, none⟩), .int .u32 b, .int .i64 p] w fun e w' => e = .returned (.int .i64 0) ∧ ∃ v, WhlG w' Wh a v [(b, p)] ∧ Upd (fun j => j = Wh) w w' ∧ ∀ j, v.ownBlock = some j → w.heap.size ≤ j := by
  have HW := Lib.hid h.row
  have HFI := Lib.hid (wfind0_is h.row p)
  have i0 : ¬ b - a < 0 := by omega
  have HAB := Lib.hid (And.intro a0 (And.intro ab b1))
  clear h a0 ab b1
  go_enter Tryz.func222, Tryz.ntmps222
  go_upto_region 3 with (go_at_call 146; refine HFI.out.mono ?_; rintro e1 w1 ⟨rfl, hb1⟩; have HR1 := Lib.hid (HW.out.keep hb1); have HB1 := Lib.hid hb1; clear hb1)
  have c0 := HR1.out.cell 0
  have c1 := HR1.out.cell 1
  have fz := HR1.out.fz
  have HF := Lib.hid (far_is HAB.out.1 (by have := HAB.out; omega) (by have := HAB.out; omega : 0 ≤ b) HAB.out.2.2 w1)
  go_upto_region 6 with (go_at_call 66; refine HF.out.mono ?_; rintro e2 w2 ⟨rfl, rfl⟩)
  clear HF
  refine wp_loop_rounds 1 ?_
  rw [rounds_succ]
  have HA := Lib.hid (Go.Joins.below_alloc1 w1 (.cells #[.int .u32 b, .int .i64 p] 152))
  have HI := Lib.hid (insert0_is (row_new w1 152 #[.int .u32 b, .int .i64 p]))
  go_wp2_with (go_at_call 292; refine HI.out.mono ?_; rintro e3 w3 ⟨q3, c3, rfl, ho3, hb3⟩; have HR3 := Lib.hid ((HR1.out.keep HA.out).keep hb3); have HB3 := Lib.hid (HB1.out.trans ((HA.out.trans (hb3.mono HA.out.size)).mono HB1.out.size)); have HO3 := Lib.hid (owns_base ho3 (Nat.le_trans HB1.out.size HA.out.size)); have f1 := HR3.out.fz 1; have d1 := HR3.out.cell 1; clear ho3 hb3)
  go_ret
  obtain ⟨v, hv⟩ : ∃ v : Value, v = .slice q3 1 c3 := ⟨_, rfl⟩
  rw [← hv] at HO3 ⊢
  have hne : v.ownBlock ≠ some Wh := fun e => by
    have h1 := (HO3.out.lt Wh e).1
    have h2 := HW.out.lt
    omega
  have hs := HR3.out.setCell 1 v
  refine ⟨rfl, v, ⟨?_, ?_, hne⟩, (Upd.below HB3.out).trans (Upd.set _ _ rfl), fun j hj => (HO3.out.lt j hj).1⟩
  · rw [hs]
    exact HR3.out.setRow _
  · exact owns_base ((Upd.set (S := fun j => j = Wh) w3 v rfl).owns HO3.out (fun g hg e => hne (by rw [hg, e]))) (Nat.zero_le _)
end Go.Proofs.YtnmlapiekfkbaaaGreatDoor
