/- The walks of proc.Exit, proc.Wait. -/
import Derived.Test.YtgdihccmkleimaaProcFork
namespace Go.Proofs.Ytgdihccmkleimaa.ProcLaw
open Go.RowKit
set_option linter.unusedVariables false

def ExitPost (t : T) (b : Nat) (p c : Int) (w : World) (e : Ending) (w' : World) : Prop :=
  ∃ r en t', e = .returned (.tuple #[.int .i64 r, .int .i64 en]) ∧ Below b w w' ∧ TabAt w' b t' ∧
    ((en ≠ 0 ∧ t' = t ∧ (livR t p ≠ 0 ∨ p = 1)) ∨ (en = 0 ∧ ∃ q : Nat, p = q ∧ alive t q ∧ q ≠ 1 ∧ t' = ended t q (bits .and .i64 c 255) ∧ r = (t' q).par))
theorem orphan_yes {p : Nat} {e : E} (h : e.st ≠ 0) (h2 : e.par = p) : orphan p e = ⟨e.st, 1, e.gr, e.code⟩ := if_pos ⟨h, h2⟩
theorem orphan_no {p : Nat} {e : E} (h : ¬ (e.st ≠ 0 ∧ e.par = p)) : orphan p e = e := if_neg h
theorem lost_stay {t : T} {p k : Nat} (h : ¬ ((t k).st ≠ 0 ∧ (t k).par = p)) : lost t p (k + 1) = lost t p k := by
  rw [lost_next, orphan_no h]
  funext j
  by_cases e : j = k
  · subst e; rw [updE_same, lost_at]
  · rw [updE_other _ _ e]
theorem lost_go {t : T} {p k : Nat} (h : (t k).st ≠ 0) (h2 : (t k).par = p) : lost t p (k + 1) = updE (lost t p k) k ⟨(t k).st, 1, (t k).gr, (t k).code⟩ := by
  rw [lost_next, orphan_yes h h2]
theorem ended_at {t : T} {q : Nat} {c : Int} : updE (lost t q 17) q ⟨2, (lost t q 17 q).par, (lost t q 17 q).gr, c⟩ = ended t q c := rfl
theorem TabAt.endA {w : World} {b q : Nat} {t : T} {c : Int} (h : TabAt w b (lost t q 17)) (hq : q < 17) : TabAt ((w.setCell ⟨b, q * 4, none⟩ (.int .i64 2)).setCell ⟨b, q * 4 + 3, none⟩ (.int .i64 c)) b (ended t q c) := by
  have h2 := (h.setSt hq 2).setCode hq c
  rw [updE_same, updE_twice] at h2
  exact h2
theorem TabAt.endB {w : World} {b q : Nat} {t : T} {c : Int} (h : TabAt w b (lost t q 17)) (hq : q < 17) : TabAt ((w.setCell ⟨b, q * 4 + 3, none⟩ (.int .i64 c)).setCell ⟨b, q * 4, none⟩ (.int .i64 2)) b (ended t q c) := by
  have h2 := (h.setCode hq c).setSt hq 2
  rw [updE_same, updE_twice] at h2
  exact h2

set_option maxRecDepth 100000 in
set_option maxHeartbeats 4000000 in
theorem exit_is {w : World} {b : Nat} {t : T} (p c : Int) (h : TabAt w b t) : Calls Try.prog 62 #[.pointer (some ⟨b, 0, none⟩), .int .i64 p, .int .i64 c] w (ExitPost t b p c w) := by
  have HL := Lib.hid (living_is p h)
  have HT := Lib.hid h
  by_cases hl : livR t p = 0
  · obtain ⟨q, rfl, ha⟩ := livR_zero hl
    have HA := Lib.hid ha
    have HZ := Lib.hid hl
    obtain ⟨q1, q2, q3⟩ := ha
    have hq : (q : Int) < 17 := by omega
    clear hl q3 h
    by_cases h1 : q = 1
    · subst h1
      go_enter Try.func62, Try.ntmps62
      go_wp2_with fail
      refine HL.out.mono ?_
      rintro e w1 ⟨rfl, rfl⟩
      rw [HZ.out]
      go_wp2
      go_ret2
      exact ⟨0, 7, t, rfl, Below.refl _ _, HT.out, .inl ⟨by decide, rfl, .inr rfl⟩⟩
    · have h1' : ((q : Int) == 1) = false := by simp; omega
      have H1 := Lib.hid h1
      clear h1
      go_enter Try.func62, Try.ntmps62
      go_wp2_with fail
      refine HL.out.mono ?_
      rintro e w1 ⟨rfl, rfl⟩
      rw [HZ.out]
      go_wp2
      go_loopw [18] (fun i wr => ∃ k : Nat, k ≤ 17 ∧ i = .int .i64 k ∧ Below b w wr ∧ Hid (TabAt wr b (lost t q k))) (fun i _ => 17 - (intOf i).toNat)
      case atStart => exact ⟨0, by omega, rfl, Below.refl _ _, by rw [lost_zero]; exact HT.out⟩
      case round =>
        obtain ⟨k, k2, rfl, hbel, HK⟩ := hrel
        by_cases hlt : k < 17
        · have hk : (k : Int) < 17 := by omega
          have c0 := HK.out.st k (by omega)
          have c1 := HK.out.par k (by omega)
          have f1 := HK.out.fz (k * 4 + 1)
          rw [lost_at] at c0 c1
          have HLT := Lib.hid hlt
          by_cases hs : (t k).st = 0
          · have HS := Lib.hid hs
            rw [hs] at c0
            clear hs
            go_wp2
            go_roundw
            case rel => exact ⟨k + 1, by omega, by go_num, hbel, by rw [lost_stay (fun h => h.1 HS.out)]; exact HK.out⟩
            case measure => simp [intOf]; omega
          · have hs' : ((t k).st != 0) = true := by simp [hs]
            have HS := Lib.hid hs
            clear hs
            by_cases hp : (t k).par = q
            · have HP := Lib.hid hp
              have hp' : ((t k).par == (q : Int)) = true := by simp [hp]
              have hset : TabAt (wr.setCell ⟨b, k * 4 + 1, none⟩ (.int .i64 1)) b (lost t q (k + 1)) := by
                rw [lost_go HS.out hp]
                have := HK.out.setPar (k := k) (by omega) 1
                rwa [lost_at] at this
              have HSET := Lib.hid hset
              clear hp hset
              go_wp2
              go_roundw
              case rel => exact ⟨k + 1, by omega, by go_num, Below.setCell hbel (by simp) _, HSET.out⟩
              case measure => simp [intOf]; omega
            · have hp' : ((t k).par == (q : Int)) = false := by simp [hp]
              have HP := Lib.hid hp
              clear hp
              go_wp2
              go_roundw
              case rel => exact ⟨k + 1, by omega, by go_num, hbel, by rw [lost_stay (fun h => HP.out h.2)]; exact HK.out⟩
              case measure => simp [intOf]; omega
        · obtain rfl : k = 17 := by omega
          have c0 := HK.out.st q (by omega)
          have c1 := HK.out.par q (by omega)
          have c3 := HK.out.code q (by omega)
          have f0 := HK.out.fz (q * 4)
          have f3 := HK.out.fz (q * 4 + 3)
          clear hlt k2
          go_wp2_with fail
          go_region
          all_goals
            go_wp2
            go_ret2
            refine ⟨_, 0, ended t q (bits .and .i64 c 255), rfl, ?_, ?_, .inr ⟨rfl, q, rfl, HA.out, H1.out, rfl, ?_⟩⟩
            · repeat (first | refine Below.drew ?_ | refine Below.setCell ?_ (by simp) _)
              exact hbel
            · first | exact (HK.out.endA (by omega)).drew | exact HK.out.drew.endA (by omega) | exact (HK.out.endB (by omega)).drew | exact HK.out.drew.endB (by omega)
            · rw [ended, updE_same]
  · have hl' : (livR t p != 0) = true := by simp [hl]
    have HZ := Lib.hid hl
    clear hl h
    generalize hx : livR t p = x at *
    go_enter Try.func62, Try.ntmps62
    go_wp2_with fail
    refine HL.out.mono ?_
    rintro e w1 ⟨rfl, rfl⟩
    go_wp2
    go_ret2
    exact ⟨0, x, t, rfl, Below.refl _ _, HT.out, .inl ⟨HZ.out, rfl, .inl (by rw [hx]; exact HZ.out)⟩⟩

def WaitPost (t : T) (b : Nat) (p : Int) (w : World) (e : Ending) (w' : World) : Prop :=
  ∃ r c en t', e = .returned (.tuple #[.int .i64 r, .int .i64 c, .int .i64 en]) ∧ Below b w w' ∧ TabAt w' b t' ∧
    ((en ≠ 0 ∧ t' = t ∧ (livR t p ≠ 0 ∨ ∀ j, j < 17 → ¬ ((t j).par = p ∧ (t j).st = 2))) ∨ (en = 0 ∧ ∃ k q : Nat, r = k ∧ k < 17 ∧ p = q ∧ alive t q ∧ (t k).st = 2 ∧ (t k).par = q ∧ (∀ j, j < k → ¬ ((t j).par = p ∧ (t j).st = 2)) ∧ c = (t k).code ∧ t' = updE t k e0))
set_option maxRecDepth 100000 in
set_option maxHeartbeats 4000000 in
theorem wait_is {w : World} {b : Nat} {t : T} (p : Int) (h : TabAt w b t) : Calls Try.prog 63 #[.pointer (some ⟨b, 0, none⟩), .int .i64 p] w (WaitPost t b p w) := by
  have HL := Lib.hid (living_is p h)
  have HT := Lib.hid h
  by_cases hl : livR t p = 0
  · obtain ⟨q, rfl, ha⟩ := livR_zero hl
    have HA := Lib.hid ha
    have HZ := Lib.hid hl
    clear hl h ha
    go_enter Try.func63, Try.ntmps63
    go_wp2_with fail
    refine HL.out.mono ?_
    rintro e w1 ⟨rfl, rfl⟩
    rw [HZ.out]
    go_wp2
    go_loop [8, 17] (fun s i => ∃ (k : Nat) (z : Bool), k ≤ 17 ∧ s = .bool z ∧ i = .int .i64 k ∧ Hid (∀ j, j < k → ¬ ((t j).par = (q : Int) ∧ (t j).st = 2))) (fun _ i => 17 - (intOf i).toNat)
    case atStart => exact ⟨0, false, by omega, rfl, rfl, fun j h2 => absurd h2 (by omega)⟩
    case round =>
      obtain ⟨k, z, k2, rfl, rfl, HK⟩ := hrel
      by_cases hlt : k < 17
      · have hk : (k : Int) < 17 := by omega
        have c0 := HT.out.st k (by omega)
        have c1 := HT.out.par k (by omega)
        have hnext : ¬ ((t k).par = (q : Int) ∧ (t k).st = 2) → ∀ j, j < k + 1 → ¬ ((t j).par = (q : Int) ∧ (t j).st = 2) := fun hn j hj => by
          rcases Nat.lt_succ_iff_lt_or_eq.1 hj with h | rfl
          · exact HK.out j h
          · exact hn
        have HNX := Lib.hid hnext
        clear hnext
        by_cases hs : (t k).st = 0
        · have HS := Lib.hid hs
          rw [hs] at c0
          clear hs
          go_wp2
          go_round
          case rel => exact ⟨k + 1, z, by omega, rfl, by go_num, HNX.out (fun h => by rw [HS.out] at h; cases h.2)⟩
          case measure => simp [intOf]; omega
        · have hs' : ((t k).st == 0) = false := by simp [hs]
          have HS := Lib.hid hs
          clear hs
          by_cases hp : (t k).par = q
          · have HP := Lib.hid hp
            rw [hp] at c1
            clear hp
            by_cases h2 : (t k).st = 2
            · have H2 := Lib.hid h2
              rw [h2] at c0 hs'
              have c2 := HT.out.gr k (by omega)
              have c3 := HT.out.code k (by omega)
              have f0 := HT.out.fz (k * 4)
              have f1 := HT.out.fz (k * 4 + 1)
              have f2 := HT.out.fz (k * 4 + 2)
              have f3 := HT.out.fz (k * 4 + 3)
              have HLT := Lib.hid hlt
              clear h2
              go_wp2
              refine bodyPost_ret (v := .tuple #[.int .i64 k, .int .i64 (t k).code, .int .i64 0]) (by simp [results, Try.results63, go_sem]) rfl ⟨k, (t k).code, 0, updE t k e0, rfl, ?_, ?_, .inr ⟨rfl, k, q, rfl, HLT.out, rfl, HA.out, H2.out, HP.out, HK.out, rfl, rfl⟩⟩
              · repeat (first | refine Below.drew ?_ | refine Below.setCell ?_ (by simp) _)
                exact Below.refl _ _
              · exact HT.out.set4 (by omega) 0 0 0 0
            · have h2' : ((t k).st == 2) = false := by simp [h2]
              have H2 := Lib.hid h2
              clear h2
              go_wp2
              go_round
              case rel => exact ⟨k + 1, true, by omega, rfl, by go_num, HNX.out (fun h => H2.out h.2)⟩
              case measure => simp [intOf]; omega
          · have hp' : ((t k).par != (q : Int)) = true := by simp [hp]
            have HP := Lib.hid hp
            clear hp
            go_wp2
            go_round
            case rel => exact ⟨k + 1, z, by omega, rfl, by go_num, HNX.out (fun h => HP.out h.1)⟩
            case measure => simp [intOf]; omega
      · obtain rfl : k = 17 := by omega
        cases z
        · go_wp2
          refine bodyPost_ret (v := .tuple #[.int .i64 0, .int .i64 0, .int .i64 4]) (by simp [results, Try.results63, go_sem]) rfl ⟨0, 0, 4, t, rfl, Below.refl _ _, HT.out, .inl ⟨by decide, rfl, .inr HK.out⟩⟩
        · go_wp2
          refine bodyPost_ret (v := .tuple #[.int .i64 0, .int .i64 0, .int .i64 9]) (by simp [results, Try.results63, go_sem]) rfl ⟨0, 0, 9, t, rfl, Below.refl _ _, HT.out, .inl ⟨by decide, rfl, .inr HK.out⟩⟩
  · have hl' : (livR t p != 0) = true := by simp [hl]
    have HZ := Lib.hid hl
    clear hl h
    generalize hx : livR t p = x at *
    go_enter Try.func63, Try.ntmps63
    go_wp2_with fail
    refine HL.out.mono ?_
    rintro e w1 ⟨rfl, rfl⟩
    go_wp2
    refine bodyPost_ret (v := .tuple #[.int .i64 0, .int .i64 0, .int .i64 x]) (by simp [results, Try.results63, go_sem]) rfl ⟨0, 0, x, t, rfl, Below.refl _ _, HT.out, .inl ⟨HZ.out, rfl, .inl (by rw [hx]; exact HZ.out)⟩⟩
end Go.Proofs.Ytgdihccmkleimaa.ProcLaw
