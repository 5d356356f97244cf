/- The walks of proc.Exit, proc.Wait. Signals: a set, what is sent, what comes next: in plain numbers. No program here. -/
import Derived.Test.YthioadiiedlmfaaGreatDoorProcFork
import Derived.Test.YthioadiiedlmfaaGreatDoorBits
namespace Go.Proofs.YthioadiiedlmfaaGreatDoor.ProcLaw
set_option linter.unusedSimpArgs false
open Go.RowKit
set_option linter.unusedVariables false

def ExitPost (t : T) (b : Nat) (p c : Int) (w : World) (e : Ending) (w' : World) : Prop :=
  ∃ r en t', e = .returned (.tuple #[.int .i64 r, .int .i64 en]) ∧ Upd (fun k => k = b) w w' ∧ TabAt w' b t' ∧
    ((en ≠ 0 ∧ t' = t ∧ (livR t p ≠ 0 ∨ p = 1)) ∨ (en = 0 ∧ ∃ q : Nat, p = q ∧ alive t q ∧ q ≠ 1 ∧ t' = ended t q (bits .and .i64 c 255) ∧ r = (t' q).par))
theorem orphan_yes {p : Nat} {e : E} (h : e.st ≠ 0) (h2 : e.par = p) : orphan p e = ⟨e.st, 1, e.gr, e.code⟩ := if_pos ⟨h, h2⟩
theorem orphan_no {p : Nat} {e : E} (h : ¬ (e.st ≠ 0 ∧ e.par = p)) : orphan p e = e := if_neg h
theorem lost_stay {t : T} {p k : Nat} (h : ¬ ((t k).st ≠ 0 ∧ (t k).par = p)) : lost t p (k + 1) = lost t p k := by
  rw [lost_next, orphan_no h]
  funext j
  by_cases e : j = k
  · subst e; rw [updE_same, lost_at]
  · rw [updE_other _ _ e]
theorem lost_go {t : T} {p k : Nat} (h : (t k).st ≠ 0) (h2 : (t k).par = p) : lost t p (k + 1) = updE (lost t p k) k ⟨(t k).st, 1, (t k).gr, (t k).code⟩ := by
  rw [lost_next, orphan_yes h h2]
theorem ended_at {t : T} {q : Nat} {c : Int} : updE (lost t q 17) q ⟨2, (lost t q 17 q).par, (lost t q 17 q).gr, c⟩ = ended t q c := rfl
theorem TabAt.endA {w : World} {b q : Nat} {t : T} {c : Int} (h : TabAt w b (lost t q 17)) (hq : q < 17) : TabAt ((w.setCell ⟨b, q * 4, none⟩ (.int .i64 2)).setCell ⟨b, q * 4 + 3, none⟩ (.int .i64 c)) b (ended t q c) := by
  have h2 := (h.setSt hq 2).setCode hq c
  rw [updE_same, updE_twice] at h2
  exact h2
theorem TabAt.endB {w : World} {b q : Nat} {t : T} {c : Int} (h : TabAt w b (lost t q 17)) (hq : q < 17) : TabAt ((w.setCell ⟨b, q * 4 + 3, none⟩ (.int .i64 c)).setCell ⟨b, q * 4, none⟩ (.int .i64 2)) b (ended t q c) := by
  have h2 := (h.setCode hq c).setSt hq 2
  rw [updE_same, updE_twice] at h2
  exact h2

set_option maxRecDepth 100000 in
set_option maxHeartbeats 4000000 in
theorem exit_is {w : World} {b : Nat} {t : T} (p c : Int) (h : TabAt w b t) : Calls Tryz.prog 69 #[.pointer (some ⟨b, 0, none⟩), .int .i64 p, .int .i64 c] w (ExitPost t b p c w) := by
  have HL := Lib.hid (living_is p h)
  have HT := Lib.hid h
  by_cases hl : livR t p = 0
  · obtain ⟨q, rfl, ha⟩ := livR_zero hl
    have HA := Lib.hid ha
    have HZ := Lib.hid hl
    obtain ⟨q1, q2, q3⟩ := ha
    have hq : (q : Int) < 17 := by omega
    clear hl q3 h
    by_cases h1 : q = 1
    · subst h1
      go_enter Tryz.func69, Tryz.ntmps69
      go_wp2_with fail
      refine HL.out.mono ?_
      rintro e w1 ⟨rfl, rfl⟩
      rw [HZ.out]
      go_wp2
      go_ret2
      exact ⟨0, 7, t, rfl, Upd.refl _ _, HT.out, .inl ⟨by decide, rfl, .inr rfl⟩⟩
    · have h1' : ((q : Int) == 1) = false := by simp; omega
      have H1 := Lib.hid h1
      clear h1
      go_enter Tryz.func69, Tryz.ntmps69
      go_wp2_with fail
      refine HL.out.mono ?_
      rintro e w1 ⟨rfl, rfl⟩
      rw [HZ.out]
      go_wp2
      go_loopw [18] (fun i wr => ∃ k : Nat, k ≤ 17 ∧ i = .int .i64 k ∧ Upd (fun k => k = b) w wr ∧ Hid (TabAt wr b (lost t q k))) (fun i _ => 17 - (intOf i).toNat)
      case atStart => exact ⟨0, by omega, rfl, Upd.refl _ _, by rw [lost_zero]; exact HT.out⟩
      case round =>
        obtain ⟨k, k2, rfl, hbel, HK⟩ := hrel
        by_cases hlt : k < 17
        · have hk : (k : Int) < 17 := by omega
          have c0 := HK.out.st k (by omega)
          have c1 := HK.out.par k (by omega)
          have f1 := HK.out.fz (k * 4 + 1)
          rw [lost_at] at c0 c1
          have HLT := Lib.hid hlt
          by_cases hs : (t k).st = 0
          · have HS := Lib.hid hs
            rw [hs] at c0
            clear hs
            go_wp2
            go_roundw
            case rel => exact ⟨k + 1, by omega, by go_num, hbel, by rw [lost_stay (fun h => h.1 HS.out)]; exact HK.out⟩
            case measure => simp [intOf]; omega
          · have hs' : ((t k).st != 0) = true := by simp [hs]
            have HS := Lib.hid hs
            clear hs
            by_cases hp : (t k).par = q
            · have HP := Lib.hid hp
              have hp' : ((t k).par == (q : Int)) = true := by simp [hp]
              have hset : TabAt (wr.setCell ⟨b, k * 4 + 1, none⟩ (.int .i64 1)) b (lost t q (k + 1)) := by
                rw [lost_go HS.out hp]
                have := HK.out.setPar (k := k) (by omega) 1
                rwa [lost_at] at this
              have HSET := Lib.hid hset
              clear hp hset
              go_wp2
              go_roundw
              case rel => exact ⟨k + 1, by omega, by go_num, hbel.trans (Upd.set _ _ rfl), HSET.out⟩
              case measure => simp [intOf]; omega
            · have hp' : ((t k).par == (q : Int)) = false := by simp [hp]
              have HP := Lib.hid hp
              clear hp
              go_wp2
              go_roundw
              case rel => exact ⟨k + 1, by omega, by go_num, hbel, by rw [lost_stay (fun h => HP.out h.2)]; exact HK.out⟩
              case measure => simp [intOf]; omega
        · obtain rfl : k = 17 := by omega
          have c0 := HK.out.st q (by omega)
          have c1 := HK.out.par q (by omega)
          have c3 := HK.out.code q (by omega)
          have f0 := HK.out.fz (q * 4)
          have f3 := HK.out.fz (q * 4 + 3)
          clear hlt k2
          go_wp2_with fail
          go_region
          all_goals
            go_wp2
            go_ret2
            refine ⟨_, 0, ended t q (bits .and .i64 c 255), rfl, ?_, ?_, .inr ⟨rfl, q, rfl, HA.out, H1.out, rfl, ?_⟩⟩
            · repeat (first | exact Upd.refl _ _ | refine Upd.trans ?_ (Upd.drew _) | refine Upd.trans ?_ (Upd.set _ _ rfl))
              exact hbel
            · first | exact (HK.out.endA (by omega)).drew | exact HK.out.drew.endA (by omega) | exact (HK.out.endB (by omega)).drew | exact HK.out.drew.endB (by omega)
            · rw [ended, updE_same]
  · have hl' : (livR t p != 0) = true := by simp [hl]
    have HZ := Lib.hid hl
    clear hl h
    generalize hx : livR t p = x at *
    go_enter Tryz.func69, Tryz.ntmps69
    go_wp2_with fail
    refine HL.out.mono ?_
    rintro e w1 ⟨rfl, rfl⟩
    go_wp2
    go_ret2
    exact ⟨0, x, t, rfl, Upd.refl _ _, HT.out, .inl ⟨HZ.out, rfl, .inl (by rw [hx]; exact HZ.out)⟩⟩

def WaitPost (t : T) (b : Nat) (p : Int) (w : World) (e : Ending) (w' : World) : Prop :=
  ∃ r c en t', e = .returned (.tuple #[.int .i64 r, .int .i64 c, .int .i64 en]) ∧ Upd (fun k => k = b) w w' ∧ TabAt w' b t' ∧
    ((en ≠ 0 ∧ t' = t ∧ (livR t p ≠ 0 ∨ (∀ j, j < 17 → ¬ ((t j).par = p ∧ (t j).st = 2)) ∧ (en = 9 ∧ (∃ j, j < 17 ∧ (t j).st ≠ 0 ∧ (t j).par = p) ∨ en = 4 ∧ ¬ ∃ j, j < 17 ∧ (t j).st ≠ 0 ∧ (t j).par = p))) ∨ (en = 0 ∧ ∃ k q : Nat, r = k ∧ k < 17 ∧ p = q ∧ alive t q ∧ (t k).st = 2 ∧ (t k).par = q ∧ (∀ j, j < k → ¬ ((t j).par = p ∧ (t j).st = 2)) ∧ c = (t k).code ∧ t' = updE t k e0))
set_option maxRecDepth 100000 in
set_option maxHeartbeats 4000000 in
theorem wait_is {w : World} {b : Nat} {t : T} (p : Int) (h : TabAt w b t) : Calls Tryz.prog 95 #[.pointer (some ⟨b, 0, none⟩), .int .i64 p] w (WaitPost t b p w) := by
  have HL := Lib.hid (living_is p h)
  have HT := Lib.hid h
  by_cases hl : livR t p = 0
  · obtain ⟨q, rfl, ha⟩ := livR_zero hl
    have HA := Lib.hid ha
    have HZ := Lib.hid hl
    clear hl h ha
    go_enter Tryz.func95, Tryz.ntmps95
    go_wp2_with fail
    refine HL.out.mono ?_
    rintro e w1 ⟨rfl, rfl⟩
    rw [HZ.out]
    go_wp2
    go_loop [8, 17] (fun s i => ∃ (k : Nat) (z : Bool), k ≤ 17 ∧ s = .bool z ∧ i = .int .i64 k ∧ Hid (∀ j, j < k → ¬ ((t j).par = (q : Int) ∧ (t j).st = 2)) ∧ Hid (z = true ↔ ∃ j, j < k ∧ (t j).st ≠ 0 ∧ (t j).par = (q : Int))) (fun _ i => 17 - (intOf i).toNat)
    case atStart => exact ⟨0, false, by omega, rfl, rfl, Lib.hid (fun j h2 => absurd h2 (by omega)), Lib.hid ⟨fun e => (by cases e), fun ⟨j, h, _⟩ => absurd h (by omega)⟩⟩
    case round =>
      obtain ⟨k, z, k2, rfl, rfl, HK, HZ2⟩ := hrel
      by_cases hlt : k < 17
      · have hk : (k : Int) < 17 := by omega
        have c0 := HT.out.st k (by omega)
        have c1 := HT.out.par k (by omega)
        have hnext : ¬ ((t k).par = (q : Int) ∧ (t k).st = 2) → ∀ j, j < k + 1 → ¬ ((t j).par = (q : Int) ∧ (t j).st = 2) := fun hn j hj => by
          rcases Nat.lt_succ_iff_lt_or_eq.1 hj with h | rfl
          · exact HK.out j h
          · exact hn
        have HNX := Lib.hid hnext
        clear hnext
        have HSA : Hid (¬ ((t k).st ≠ 0 ∧ (t k).par = (q : Int)) → (z = true ↔ ∃ j, j < k + 1 ∧ (t j).st ≠ 0 ∧ (t j).par = (q : Int))) := Lib.hid (fun hn => by
          rw [HZ2.out]
          constructor
          · rintro ⟨j, h1, h2⟩; exact ⟨j, by omega, h2⟩
          · rintro ⟨j, h1, h2⟩
            rcases Nat.lt_succ_iff_lt_or_eq.1 h1 with h | rfl
            · exact ⟨j, h, h2⟩
            · exact absurd h2 hn)
        by_cases hs : (t k).st = 0
        · have HS := Lib.hid hs
          rw [hs] at c0
          clear hs
          go_wp2
          go_round
          case rel => exact ⟨k + 1, z, by omega, rfl, by go_num, Lib.hid (HNX.out (fun h => by rw [HS.out] at h; cases h.2)), Lib.hid (HSA.out (fun h => h.1 HS.out))⟩
          case measure => simp [intOf]; omega
        · have hs' : ((t k).st == 0) = false := by simp [hs]
          have HS := Lib.hid hs
          clear hs
          by_cases hp : (t k).par = q
          · have HP := Lib.hid hp
            rw [hp] at c1
            clear hp
            by_cases h2 : (t k).st = 2
            · have H2 := Lib.hid h2
              rw [h2] at c0 hs'
              have c2 := HT.out.gr k (by omega)
              have c3 := HT.out.code k (by omega)
              have f0 := HT.out.fz (k * 4)
              have f1 := HT.out.fz (k * 4 + 1)
              have f2 := HT.out.fz (k * 4 + 2)
              have f3 := HT.out.fz (k * 4 + 3)
              have HLT := Lib.hid hlt
              clear h2
              go_wp2
              refine bodyPost_ret (v := .tuple #[.int .i64 k, .int .i64 (t k).code, .int .i64 0]) (by simp [results, Tryz.results95, go_sem]) rfl ⟨k, (t k).code, 0, updE t k e0, rfl, ?_, ?_, .inr ⟨rfl, k, q, rfl, HLT.out, rfl, HA.out, H2.out, HP.out, HK.out, rfl, rfl⟩⟩
              · repeat (first | exact Upd.refl _ _ | refine Upd.trans ?_ (Upd.drew _) | refine Upd.trans ?_ (Upd.set _ _ rfl))
              · exact HT.out.set4 (by omega) 0 0 0 0
            · have h2' : ((t k).st == 2) = false := by simp [h2]
              have H2 := Lib.hid h2
              clear h2
              go_wp2
              go_round
              case rel => exact ⟨k + 1, true, by omega, rfl, by go_num, Lib.hid (HNX.out (fun h => H2.out h.2)), Lib.hid ⟨fun _ => ⟨k, by omega, HS.out, HP.out⟩, fun _ => rfl⟩⟩
              case measure => simp [intOf]; omega
          · have hp' : ((t k).par != (q : Int)) = true := by simp [hp]
            have HP := Lib.hid hp
            clear hp
            go_wp2
            go_round
            case rel => exact ⟨k + 1, z, by omega, rfl, by go_num, Lib.hid (HNX.out (fun h => HP.out h.1)), Lib.hid (HSA.out (fun h => HP.out h.2))⟩
            case measure => simp [intOf]; omega
      · obtain rfl : k = 17 := by omega
        cases z
        · go_wp2
          refine bodyPost_ret (v := .tuple #[.int .i64 0, .int .i64 0, .int .i64 4]) (by simp [results, Tryz.results95, go_sem]) rfl ⟨0, 0, 4, t, rfl, Upd.refl _ _, HT.out, .inl ⟨by decide, rfl, .inr ⟨HK.out, .inr ⟨rfl, fun e => by have := HZ2.out.2 e; cases this⟩⟩⟩⟩
        · go_wp2
          refine bodyPost_ret (v := .tuple #[.int .i64 0, .int .i64 0, .int .i64 9]) (by simp [results, Tryz.results95, go_sem]) rfl ⟨0, 0, 9, t, rfl, Upd.refl _ _, HT.out, .inl ⟨by decide, rfl, .inr ⟨HK.out, .inl ⟨rfl, HZ2.out.1 trivial⟩⟩⟩⟩
  · have hl' : (livR t p != 0) = true := by simp [hl]
    have HZ := Lib.hid hl
    clear hl h
    generalize hx : livR t p = x at *
    go_enter Tryz.func95, Tryz.ntmps95
    go_wp2_with fail
    refine HL.out.mono ?_
    rintro e w1 ⟨rfl, rfl⟩
    go_wp2
    refine bodyPost_ret (v := .tuple #[.int .i64 0, .int .i64 0, .int .i64 x]) (by simp [results, Tryz.results95, go_sem]) rfl ⟨0, 0, x, t, rfl, Upd.refl _ _, HT.out, .inl ⟨HZ.out, rfl, .inl (by rw [hx]; exact HZ.out)⟩⟩
end Go.Proofs.YthioadiiedlmfaaGreatDoor.ProcLaw
namespace Go.Proofs.YthioadiiedlmfaaGreatDoor.SigLaw
set_option linter.unusedSimpArgs false
set_option linter.unusedVariables false

/-- pending, kept back, what is done with each of 16 -/
structure G where
  p : Int
  m : Int
  h : Nat → Int

/-- no bits beyond 1 to 15 -/
def fitB (x : Int) : Bool := (bits .andNot .i64 x 65534 == 0)
theorem fit_nat {x : Int} (h0 : -2 ^ 63 ≤ x) (h1 : x < 2 ^ 63) (h : fitB x = true) : ∃ n : Nat, x = n ∧ n < 65536 ∧ n.testBit 0 = false := by
  unfold fitB at h
  have h2 : bits .andNot .i64 x 65534 = 0 := by simpa using h
  have h3 : IntKind.i64.wrap ((BitVec.ofInt 64 x &&& ~~~BitVec.ofInt 64 65534).toNat : Int) = 0 := h2
  obtain ⟨b, hb⟩ : ∃ b, b = BitVec.ofInt 64 x := ⟨_, rfl⟩
  rw [← hb] at h3
  have h4 : (b &&& ~~~BitVec.ofInt 64 65534).toNat = 0 := by
    rw [IntKind.wrap_i64] at h3
    have := (b &&& ~~~BitVec.ofInt 64 65534).isLt
    omega
  have hbit : ∀ i, b.toNat.testBit i = true → i ≠ 0 ∧ i < 16 := by
    intro i hi
    have h5 : (b &&& ~~~BitVec.ofInt 64 65534).toNat.testBit i = false := by rw [h4]; simp
    rw [BitVec.testBit_toNat, BitVec.getLsbD_and, BitVec.getLsbD_not] at h5
    rw [BitVec.testBit_toNat] at hi
    have hlt : i < 64 := by
      rcases Nat.lt_or_ge i 64 with h | h
      · exact h
      · rw [BitVec.getLsbD_of_ge _ _ h] at hi; cases hi
    rw [hi] at h5
    simp [hlt] at h5
    have hex : ∀ i : Fin 64, (BitVec.ofInt 64 65534).getLsbD i.val = true → i.val ≠ 0 ∧ i.val < 16 := by decide +kernel
    exact hex ⟨i, hlt⟩ h5
  have hlt : b.toNat < 65536 := by
    apply Nat.lt_pow_two_of_testBit b.toNat (n := 16)
    intro i hi
    cases ht : b.toNat.testBit i
    · rfl
    · have := (hbit i ht).2; omega
  refine ⟨b.toNat, ?_, hlt, ?_⟩
  · have h6 : b.toInt = x := by
      rw [hb, BitVec.toInt_ofInt]
      apply Int.bmod_eq_of_le <;> omega
    rw [← h6, BitVec.toInt_eq_toNat_of_lt (by omega)]
  · cases ht : b.toNat.testBit 0
    · rfl
    · exact absurd rfl (hbit 0 ht).1
theorem nat_fit (n : Nat) (h : n < 65536) (h0 : n.testBit 0 = false) : fitB n = true := by
  unfold fitB
  rw [show (65534 : Int) = ((65534 : Nat) : Int) from rfl, i64_andNot n 65534 (by omega) (by decide)]
  have : less n 65534 = 0 := by
    rw [less_zero]
    intro i hi
    have hlt : i < 16 := by
      rcases Nat.lt_or_ge i 16 with h' | h'
      · exact h'
      · rw [Nat.testBit_lt_two_pow (Nat.lt_of_lt_of_le h (Nat.pow_le_pow_right (n := 2) (by decide) h'))] at hi; cases hi
    have h1 : i ≠ 0 := by rintro rfl; rw [h0] at hi; cases hi
    have hex : ∀ i : Fin 16, i.val ≠ 0 → (65534 : Nat).testBit i.val = true := by decide +kernel
    exact hex ⟨i, hlt⟩ h1
  rw [this]; rfl

theorem bit_is (n k : Nat) (h : n < 65536) : bits .and .i64 ((n : Int) / 2 ^ k) 1 = if n.testBit k = true then 1 else 0 := by
  have e : (n : Int) / 2 ^ k = ((n / 2 ^ k : Nat) : Int) := by norm_cast
  have hlt : n / 2 ^ k < 2 ^ 63 := Nat.lt_of_le_of_lt (Nat.div_le_self _ _) (by omega)
  rw [e, show (1 : Int) = ((1 : Nat) : Int) from rfl, i64_and _ _ hlt (by decide), Nat.and_one_is_mod, Nat.testBit_eq_decide_div_mod_eq]
  have : n / 2 ^ k % 2 = 0 ∨ n / 2 ^ k % 2 = 1 := by omega
  rcases this with h | h <;> simp [h]
theorem bit_eq (n k : Nat) (h : n < 65536) : (bits .and .i64 ((n : Int) / 2 ^ k) 1 == 1) = n.testBit k := by
  rw [bit_is n k h]
  cases n.testBit k <;> rfl

/-- a set that is right -/
structure Right (g : G) (P M : Nat) : Prop where
  p : g.p = P
  m : g.m = M
  pl : P < 65536
  p0 : P.testBit 0 = false
  ml : M < 65536
  m0 : M.testBit 0 = false
  m9 : M.testBit 9 = false
  h : ∀ j, j < 16 → 0 ≤ g.h j
  h0 : g.h 0 = 0
  h9 : g.h 9 = 0
def good (g : G) : Prop := ∃ P M, Right g P M

/-- how many bits among 0 to 15 -/
def pop (n : Nat) : Nat := (List.range 16).countP (fun i => n.testBit i)
theorem count_less (l : List Nat) (hn : l.Nodup) (q : Nat → Bool) (k : Nat) (hk : k ∈ l) (hq : q k = true) : l.countP (fun i => q i && !decide (i = k)) + 1 = l.countP q := by
  induction l with
  | nil => cases hk
  | cons x t ih =>
    rw [List.nodup_cons] at hn
    by_cases hx : x = k
    · subst hx
      rw [List.countP_cons_of_neg (by simp), List.countP_cons_of_pos hq]
      congr 1
      apply List.countP_congr
      intro y hy
      have : y ≠ x := fun e => hn.1 (e ▸ hy)
      simp [this]
    · have hk' : k ∈ t := by
        rcases List.mem_cons.1 hk with h | h
        · exact absurd h.symm hx
        · exact h
      have := ih hn.2 hk'
      by_cases hqx : q x = true
      · rw [List.countP_cons_of_pos (by simp [hqx, hx]), List.countP_cons_of_pos hqx]; omega
      · rw [List.countP_cons_of_neg (by simp [hqx]), List.countP_cons_of_neg hqx]; omega
theorem pop_less (n k : Nat) (hk : k < 16) (h : n.testBit k = true) : pop (less n (1 <<< k)) + 1 = pop n := by
  unfold pop
  rw [← count_less (List.range 16) List.nodup_range (fun i => n.testBit i) k (List.mem_range.2 hk) h]
  congr 2
  funext i
  rw [less_bit, Nat.one_shiftLeft, Nat.testBit_two_pow]
  by_cases e : k = i
  · subst e; simp
  · have e' : ¬ i = k := fun h => e h.symm
    simp [e, e']
theorem pop_le (n : Nat) : pop n ≤ 16 := by
  have := List.countP_le_length (p := fun i => n.testBit i) (l := List.range 16)
  simpa [pop] using this

theorem pop_lt (n : Nat) (h : n.testBit 0 = false) : pop n ≤ 15 := by
  unfold pop
  have : List.range 16 = 0 :: (List.range 15).map Nat.succ := by decide
  rw [this, List.countP_cons_of_neg (by simp [h])]
  have := List.countP_le_length (p := fun i => n.testBit i) (l := (List.range 15).map Nat.succ)
  simpa using this
theorem one_shift (k : Nat) (h : k < 16) : 1 <<< k < 65536 := by
  rw [Nat.one_shiftLeft]; exact Nat.pow_lt_pow_right (by decide) h
theorem less_lt (a b : Nat) (h : a < 65536) : less a b < 65536 := Nat.lt_of_le_of_lt (less_le a b) h
theorem less_bit0 (a b : Nat) (h : a.testBit 0 = false) : (less a b).testBit 0 = false := by rw [less_bit, h]; rfl
theorem or_bit0 (a k : Nat) (h : a.testBit 0 = false) (hk : 1 ≤ k) : (a ||| 1 <<< k).testBit 0 = false := by
  rw [Nat.testBit_or, h, Nat.one_shiftLeft, Nat.testBit_two_pow]
  simp; omega
theorem or_bit_same (a k : Nat) : (a ||| 1 <<< k).testBit k = true := by
  rw [Nat.testBit_or, Nat.one_shiftLeft, Nat.testBit_two_pow]; simp
theorem less_gone (a k : Nat) : (less a (1 <<< k)).testBit k = false := by
  rw [less_bit, Nat.one_shiftLeft, Nat.testBit_two_pow]; simp
theorem less_or (a k : Nat) (h : a.testBit k = true) : less a (1 <<< k) ||| 1 <<< k = a := by
  apply Nat.eq_of_testBit_eq
  intro i
  rw [Nat.testBit_or, less_bit, Nat.one_shiftLeft, Nat.testBit_two_pow]
  by_cases e : k = i
  · subst e; simp [h]
  · simp [e]
theorem or_or (a k : Nat) : a ||| 1 <<< k ||| 1 <<< k = a ||| 1 <<< k := by
  rw [Nat.or_assoc, Nat.or_self]

/-- nothing is done with signal n when it is sent -/
def deaf (g : G) (n : Nat) : Prop := g.h n = 1 ∨ (n = 7 ∧ g.h n = 0)
instance (g : G) (n : Nat) : Decidable (deaf g n) := by unfold deaf; infer_instance
/-- pending, when n was sent -/
def sentP (g : G) (P n : Nat) : Nat := if deaf g n then P else P ||| 1 <<< n
theorem sent_right {g : G} {P M n : Nat} (h : Right g P M) (h1 : 1 ≤ n) (h2 : n ≤ 15) : Right ⟨(sentP g P n : Nat), g.m, g.h⟩ (sentP g P n) M := by
  refine ⟨rfl, h.m, ?_, ?_, h.ml, h.m0, h.m9, h.h, h.h0, h.h9⟩
  · unfold sentP; split
    · exact h.pl
    · exact or_lt _ _ 16 h.pl (one_shift n (by omega))
  · unfold sentP; split
    · exact h.p0
    · exact or_bit0 _ _ h.p0 h1
theorem sentP_pos {g : G} {P n : Nat} (h : deaf g n) : sentP g P n = P := if_pos h
theorem sentP_neg {g : G} {P n : Nat} (h : ¬ deaf g n) : sentP g P n = P ||| 1 <<< n := if_neg h
theorem sent_twice (g : G) (P n : Nat) (x : Int) : sentP ⟨x, g.m, g.h⟩ (sentP g P n) n = sentP g P n := by
  by_cases hd : deaf g n
  · have hd2 : deaf ⟨x, g.m, g.h⟩ n := hd
    exact sentP_pos hd2
  · have hd2 : ¬ deaf ⟨x, g.m, g.h⟩ n := hd
    rw [sentP_neg hd2, sentP_neg hd]; exact or_or P n
theorem held_right {g : G} {P M k : Nat} (h : Right g P M) (hk : k < 65536) (hk0 : k.testBit 0 = false) : Right ⟨g.p, (less k 512 : Nat), g.h⟩ P (less k 512) := by
  refine ⟨h.p, rfl, h.pl, h.p0, less_lt _ _ hk, less_bit0 _ _ hk0, ?_, h.h, h.h0, h.h9⟩
  rw [show (512 : Nat) = 1 <<< 9 from rfl]; exact less_gone _ _
theorem taken_right {g : G} {P M k : Nat} (h : Right g P M) : Right ⟨(less P (1 <<< k) : Nat), g.m, g.h⟩ (less P (1 <<< k)) M :=
  ⟨rfl, h.m, less_lt _ _ h.pl, less_bit0 _ _ h.p0, h.ml, h.m0, h.m9, h.h, h.h0, h.h9⟩
end Go.Proofs.YthioadiiedlmfaaGreatDoor.SigLaw
