/- The walk of package open: Fork. The walks of proc.Fork, Exit, Wait. The walks of proc.Exit, proc.Wait. -/
import Derived.Test.YtnbhohaphmilmaaGreatDoorDiskNew
import Derived.Test.YtnbhohaphmilmaaGreatDoorOpenWalk
import Derived.Test.YtnbhohaphmilmaaGreatDoorBytes
namespace Go.Proofs.YtnbhohaphmilmaaGreatDoor.OpenLaw
set_option linter.unusedSimpArgs false
open Go.RowKit
set_option linter.unusedVariables false

def cpD (fd : Nat → Nat) (p c : Nat) : Nat → Nat → Nat
  | 0 => fd
  | n + 1 => updN (cpD fd p c n) (c * 8 + n) (fd (p * 8 + n))
theorem cpD_at (fd : Nat → Nat) (p c n q : Nat) : cpD fd p c n q = if c * 8 ≤ q ∧ q < c * 8 + n then fd (p * 8 + (q - c * 8)) else fd q := by
  induction n with
  | zero => rw [cpD, if_neg (by omega)]
  | succ n ih =>
    rw [cpD, updN]
    by_cases e : q = c * 8 + n
    · rw [if_pos e, if_pos (by omega), e]
      congr 1
      omega
    · rw [if_neg e, ih]
      by_cases e2 : c * 8 ≤ q ∧ q < c * 8 + n
      · rw [if_pos e2, if_pos (by omega)]
      · rw [if_neg e2, if_neg (by omega)]
def fkF (fs : Nat → F) (r : Nat → Nat) : Nat → Nat → F
  | 0 => fs
  | n + 1 => if r n = 0 then fkF fs r n else updF (fkF fs r n) (r n - 1) { fkF fs r n (r n - 1) with n := (fkF fs r n (r n - 1)).n + 1 }
theorem fkF_le (fs : Nat → F) (r : Nat → Nat) (n k : Nat) : (fs k).n ≤ (fkF fs r n k).n ∧ (fkF fs r n k).n ≤ (fs k).n + n := by
  induction n with
  | zero => exact ⟨Int.le_refl _, by simp [fkF]⟩
  | succ n ih =>
    rw [fkF]
    split
    · omega
    · by_cases e : k = r n - 1
      · rw [← e, updF_same]
        show (fs k).n ≤ (fkF fs r n k).n + 1 ∧ (fkF fs r n k).n + 1 ≤ _
        omega
      · rw [updF_other _ _ e]
        omega
theorem OTab.setRow {w : World} {b p c : Nat} {fs : Nat → F} {fd : Nat → Nat} (h : OTab w b fs fd) (hc : c < 17) (r : Nat → Nat) (hr : ∀ i, r i = fd (p * 8 + i)) :
    OTab ((((((((w.setCell ⟨b, 192 + c * 8, none⟩ (.int .i64 (r 0))).setCell ⟨b, 192 + c * 8 + 1, none⟩ (.int .i64 (r 1))).setCell ⟨b, 192 + c * 8 + 2, none⟩ (.int .i64 (r 2))).setCell ⟨b, 192 + c * 8 + 3, none⟩ (.int .i64 (r 3))).setCell ⟨b, 192 + c * 8 + 4, none⟩ (.int .i64 (r 4))).setCell ⟨b, 192 + c * 8 + 5, none⟩ (.int .i64 (r 5))).setCell ⟨b, 192 + c * 8 + 6, none⟩ (.int .i64 (r 6))).setCell ⟨b, 192 + c * 8 + 7, none⟩ (.int .i64 (r 7))) b fs (cpD fd p c 8) := by
  have L := h.le
  rw [hr, hr, hr, hr, hr, hr, hr, hr]
  have s0 : OTab (w.setCell ⟨b, 192 + c * 8, none⟩ (.int .i64 (fd (p * 8 + 0)))) b fs (cpD fd p c 1) := h.setD hc (j := 0) (by omega) (x := fd (p * 8 + 0)) (L _)
  have s1 : OTab _ b fs (cpD fd p c 2) := s0.setD hc (j := 1) (by omega) (x := fd (p * 8 + 1)) (L _)
  have s2 : OTab _ b fs (cpD fd p c 3) := s1.setD hc (j := 2) (by omega) (x := fd (p * 8 + 2)) (L _)
  have s3 : OTab _ b fs (cpD fd p c 4) := s2.setD hc (j := 3) (by omega) (x := fd (p * 8 + 3)) (L _)
  have s4 : OTab _ b fs (cpD fd p c 5) := s3.setD hc (j := 4) (by omega) (x := fd (p * 8 + 4)) (L _)
  have s5 : OTab _ b fs (cpD fd p c 6) := s4.setD hc (j := 5) (by omega) (x := fd (p * 8 + 5)) (L _)
  have s6 : OTab _ b fs (cpD fd p c 7) := s5.setD hc (j := 6) (by omega) (x := fd (p * 8 + 6)) (L _)
  have s7 : OTab _ b fs (cpD fd p c 8) := s6.setD hc (j := 7) (by omega) (x := fd (p * 8 + 7)) (L _)
  exact s7
theorem fork_args {p c : Nat} : True := trivial
set_option maxRecDepth 100000 in
set_option maxHeartbeats 400000 in
theorem fork_busy {w : World} {b p c : Nat} {fs : Nat → F} {fd : Nat → Nat} (h : OTab w b fs fd) (h1 : 1 ≤ p) (h2 : p ≤ 16) (h3 : 1 ≤ c) (h4 : c ≤ 16) (hb : ∃ i, i < 8 ∧ fd (c * 8 + i) ≠ 0) : Calls Tryz.prog 253 #[.pointer (some ⟨b, 0, none⟩), .int .i64 p, .int .i64 c] w fun e w' => e = .returned (.int .i64 8) ∧ w = w' := by
  have HO := Lib.hid (owner_is h1 h2)
  have HO2 := Lib.hid (owner_is h3 h4)
  obtain ⟨rc, hrc⟩ : ∃ r : Nat → Nat, ∀ i, r i = fd (c * 8 + i) := ⟨fun i => fd (c * 8 + i), fun _ => rfl⟩
  have rcd0 : w.cell? ⟨b, 192 + c * 8, none⟩ = some (.int .i64 (rc 0)) := by rw [hrc 0]; exact h.d c 0 (by omega) (by omega)
  have rcd1 : w.cell? ⟨b, 192 + c * 8 + 1, none⟩ = some (.int .i64 (rc 1)) := by rw [hrc 1]; exact h.d c 1 (by omega) (by omega)
  have rcd2 : w.cell? ⟨b, 192 + c * 8 + 2, none⟩ = some (.int .i64 (rc 2)) := by rw [hrc 2]; exact h.d c 2 (by omega) (by omega)
  have rcd3 : w.cell? ⟨b, 192 + c * 8 + 3, none⟩ = some (.int .i64 (rc 3)) := by rw [hrc 3]; exact h.d c 3 (by omega) (by omega)
  have rcd4 : w.cell? ⟨b, 192 + c * 8 + 4, none⟩ = some (.int .i64 (rc 4)) := by rw [hrc 4]; exact h.d c 4 (by omega) (by omega)
  have rcd5 : w.cell? ⟨b, 192 + c * 8 + 5, none⟩ = some (.int .i64 (rc 5)) := by rw [hrc 5]; exact h.d c 5 (by omega) (by omega)
  have rcd6 : w.cell? ⟨b, 192 + c * 8 + 6, none⟩ = some (.int .i64 (rc 6)) := by rw [hrc 6]; exact h.d c 6 (by omega) (by omega)
  have rcd7 : w.cell? ⟨b, 192 + c * 8 + 7, none⟩ = some (.int .i64 (rc 7)) := by rw [hrc 7]; exact h.d c 7 (by omega) (by omega)
  have hpi : (p : Int) < 17 := by omega
  have hci : (c : Int) < 17 := by omega
  have HH := Lib.hid h
  have HP := Lib.hid (show p < 17 by omega)
  have HC := Lib.hid (show c < 17 by omega)
  have HB := Lib.hid (show ∃ i, i < 8 ∧ rc i ≠ 0 from by obtain ⟨i, a, x⟩ := hb; exact ⟨i, a, by rw [hrc]; exact x⟩)
  clear h h1 h2 h3 h4 hb hrc
  go_enter Tryz.func253, Tryz.ntmps253
  go_wp2_with fail
  refine (HO.out _).mono ?_
  rintro e w1 ⟨rfl, rfl⟩
  go_wp2_with fail
  refine (HO2.out _).mono ?_
  rintro e w1 ⟨rfl, rfl⟩
  go_wp2_with fail
  go_loop [8, 25] (fun u i => ∃ k : Nat, k ≤ 8 ∧ i = .int .i64 k ∧ Hid (∀ j, j < k → rc j = 0)) (fun _ i => 8 - (intOf i).toNat)
  case atStart => exact ⟨0, by omega, rfl, fun j hj => absurd hj (by omega)⟩
  case round =>
    obtain ⟨k, hk8, rfl, HK⟩ := hrel
    have hlt : k < 8 := by
      obtain ⟨i, a, x⟩ := HB.out
      rcases Nat.lt_or_ge i k with q | q
      · exact absurd (HK.out i q) x
      · omega
    have hki : (k : Int) < 8 := by omega
    have hix := row_at rc k hlt w
    by_cases hz : rc k = 0
    · have hz' : ((rc k : Int) != 0) = false := by simp [hz]
      have HZ := Lib.hid hz
      clear hz
      go_wp2
      go_round
      case rel => exact ⟨k + 1, by omega, rfl, fun j hj => by
        rcases Nat.lt_succ_iff_lt_or_eq.mp hj with q | q
        · exact HK.out j q
        · rw [q]; exact HZ.out⟩
      case measure => simp [intOf]; omega
    · have hz' : ((rc k : Int) != 0) = true := by simp; omega
      clear hz
      go_wp2
      go_ret
      exact ⟨rfl, rfl⟩
set_option maxRecDepth 100000 in
set_option maxHeartbeats 400000 in
theorem fork_same {w : World} {b p : Nat} {fs : Nat → F} {fd : Nat → Nat} (h : OTab w b fs fd) (h1 : 1 ≤ p) (h2 : p ≤ 16) (hb : ∀ i, i < 8 → fd (p * 8 + i) = 0) : Calls Tryz.prog 253 #[.pointer (some ⟨b, 0, none⟩), .int .i64 p, .int .i64 p] w fun e w' => e = .returned (.int .i64 0) ∧ w = w' := by
  obtain ⟨c, hc⟩ : ∃ c, c = p := ⟨p, rfl⟩
  have h3 := h1
  have h4 := h2
  have HO := Lib.hid (owner_is h1 h2)
  have HO2 := Lib.hid (owner_is h3 h4)
  obtain ⟨rc, hrc⟩ : ∃ r : Nat → Nat, ∀ i, r i = fd (p * 8 + i) := ⟨fun i => fd (p * 8 + i), fun _ => rfl⟩
  have rcd0 : w.cell? ⟨b, 192 + p * 8, none⟩ = some (.int .i64 (rc 0)) := by rw [hrc 0]; exact h.d p 0 (by omega) (by omega)
  have rcd1 : w.cell? ⟨b, 192 + p * 8 + 1, none⟩ = some (.int .i64 (rc 1)) := by rw [hrc 1]; exact h.d p 1 (by omega) (by omega)
  have rcd2 : w.cell? ⟨b, 192 + p * 8 + 2, none⟩ = some (.int .i64 (rc 2)) := by rw [hrc 2]; exact h.d p 2 (by omega) (by omega)
  have rcd3 : w.cell? ⟨b, 192 + p * 8 + 3, none⟩ = some (.int .i64 (rc 3)) := by rw [hrc 3]; exact h.d p 3 (by omega) (by omega)
  have rcd4 : w.cell? ⟨b, 192 + p * 8 + 4, none⟩ = some (.int .i64 (rc 4)) := by rw [hrc 4]; exact h.d p 4 (by omega) (by omega)
  have rcd5 : w.cell? ⟨b, 192 + p * 8 + 5, none⟩ = some (.int .i64 (rc 5)) := by rw [hrc 5]; exact h.d p 5 (by omega) (by omega)
  have rcd6 : w.cell? ⟨b, 192 + p * 8 + 6, none⟩ = some (.int .i64 (rc 6)) := by rw [hrc 6]; exact h.d p 6 (by omega) (by omega)
  have rcd7 : w.cell? ⟨b, 192 + p * 8 + 7, none⟩ = some (.int .i64 (rc 7)) := by rw [hrc 7]; exact h.d p 7 (by omega) (by omega)
  have hpi : (p : Int) < 17 := by omega
  have hci : (p : Int) < 17 := by omega
  have HH := Lib.hid h
  have HP := Lib.hid (show p < 17 by omega)
  have HC := Lib.hid (show p < 17 by omega)
  have HZR := Lib.hid (show ∀ i, i < 8 → rc i = 0 from fun i hi => by rw [hrc]; exact hb i hi)
  clear h h1 h2 h3 h4 hb hrc hc
  go_enter Tryz.func253, Tryz.ntmps253
  go_wp2_with fail
  refine (HO.out _).mono ?_
  rintro e w1 ⟨rfl, rfl⟩
  go_wp2_with fail
  refine (HO2.out _).mono ?_
  rintro e w1 ⟨rfl, rfl⟩
  go_wp2_with fail
  go_loop [8, 25] (fun u i => ∃ k : Nat, k ≤ 8 ∧ i = .int .i64 k) (fun _ i => 8 - (intOf i).toNat)
  case atStart => exact ⟨0, by omega, rfl⟩
  case round =>
    obtain ⟨k, hk8, rfl⟩ := hrel
    by_cases hlt : k < 8
    · have hki : (k : Int) < 8 := by omega
      have hix := row_at rc k hlt w
      have hz' : ((rc k : Int) != 0) = false := by simp [HZR.out k hlt]
      go_wp2
      go_round
      case rel => exact ⟨k + 1, by omega, rfl⟩
      case measure => simp [intOf]; omega
    · obtain rfl : k = 8 := by omega
      go_wp2
      go_ret
      exact ⟨rfl, rfl⟩
set_option maxRecDepth 100000 in
set_option maxHeartbeats 400000 in
theorem fork_is {w : World} {b p c : Nat} {fs : Nat → F} {fd : Nat → Nat} (h : OTab w b fs fd) (h1 : 1 ≤ p) (h2 : p ≤ 16) (h3 : 1 ≤ c) (h4 : c ≤ 16) (hpc : p ≠ c) (hb : ∀ i, i < 8 → fd (c * 8 + i) = 0) (hn : ∀ k, k < 32 → 0 ≤ (fs k).n ∧ (fs k).n ≤ 200) :
    Calls Tryz.prog 253 #[.pointer (some ⟨b, 0, none⟩), .int .i64 p, .int .i64 c] w fun e w' => e = .returned (.int .i64 0) ∧ KB b w w' ∧ OTab w' b (fkF fs (fun i => fd (p * 8 + i)) 8) (cpD fd p c 8) := by
  have HO := Lib.hid (owner_is h1 h2)
  have HO2 := Lib.hid (owner_is h3 h4)
  obtain ⟨rc, hrc⟩ : ∃ r : Nat → Nat, ∀ i, r i = fd (c * 8 + i) := ⟨fun i => fd (c * 8 + i), fun _ => rfl⟩
  have rcd0 : w.cell? ⟨b, 192 + c * 8, none⟩ = some (.int .i64 (rc 0)) := by rw [hrc 0]; exact h.d c 0 (by omega) (by omega)
  have rcd1 : w.cell? ⟨b, 192 + c * 8 + 1, none⟩ = some (.int .i64 (rc 1)) := by rw [hrc 1]; exact h.d c 1 (by omega) (by omega)
  have rcd2 : w.cell? ⟨b, 192 + c * 8 + 2, none⟩ = some (.int .i64 (rc 2)) := by rw [hrc 2]; exact h.d c 2 (by omega) (by omega)
  have rcd3 : w.cell? ⟨b, 192 + c * 8 + 3, none⟩ = some (.int .i64 (rc 3)) := by rw [hrc 3]; exact h.d c 3 (by omega) (by omega)
  have rcd4 : w.cell? ⟨b, 192 + c * 8 + 4, none⟩ = some (.int .i64 (rc 4)) := by rw [hrc 4]; exact h.d c 4 (by omega) (by omega)
  have rcd5 : w.cell? ⟨b, 192 + c * 8 + 5, none⟩ = some (.int .i64 (rc 5)) := by rw [hrc 5]; exact h.d c 5 (by omega) (by omega)
  have rcd6 : w.cell? ⟨b, 192 + c * 8 + 6, none⟩ = some (.int .i64 (rc 6)) := by rw [hrc 6]; exact h.d c 6 (by omega) (by omega)
  have rcd7 : w.cell? ⟨b, 192 + c * 8 + 7, none⟩ = some (.int .i64 (rc 7)) := by rw [hrc 7]; exact h.d c 7 (by omega) (by omega)
  have hpi : (p : Int) < 17 := by omega
  have hci : (c : Int) < 17 := by omega
  have HH := Lib.hid h
  have HP := Lib.hid (show p < 17 by omega)
  have HC := Lib.hid (show c < 17 by omega)
  have HZR := Lib.hid (show ∀ i, i < 8 → rc i = 0 from fun i hi => by rw [hrc]; exact hb i hi)
  obtain ⟨rp, hrp⟩ : ∃ r : Nat → Nat, r = fun i => fd (p * 8 + i) := ⟨_, rfl⟩
  rw [← hrp]
  replace hrp : ∀ i, rp i = fd (p * 8 + i) := fun i => by rw [hrp]
  have rpd0 : w.cell? ⟨b, 192 + p * 8, none⟩ = some (.int .i64 (rp 0)) := by rw [hrp 0]; exact h.d p 0 (by omega) (by omega)
  have rpd1 : w.cell? ⟨b, 192 + p * 8 + 1, none⟩ = some (.int .i64 (rp 1)) := by rw [hrp 1]; exact h.d p 1 (by omega) (by omega)
  have rpd2 : w.cell? ⟨b, 192 + p * 8 + 2, none⟩ = some (.int .i64 (rp 2)) := by rw [hrp 2]; exact h.d p 2 (by omega) (by omega)
  have rpd3 : w.cell? ⟨b, 192 + p * 8 + 3, none⟩ = some (.int .i64 (rp 3)) := by rw [hrp 3]; exact h.d p 3 (by omega) (by omega)
  have rpd4 : w.cell? ⟨b, 192 + p * 8 + 4, none⟩ = some (.int .i64 (rp 4)) := by rw [hrp 4]; exact h.d p 4 (by omega) (by omega)
  have rpd5 : w.cell? ⟨b, 192 + p * 8 + 5, none⟩ = some (.int .i64 (rp 5)) := by rw [hrp 5]; exact h.d p 5 (by omega) (by omega)
  have rpd6 : w.cell? ⟨b, 192 + p * 8 + 6, none⟩ = some (.int .i64 (rp 6)) := by rw [hrp 6]; exact h.d p 6 (by omega) (by omega)
  have rpd7 : w.cell? ⟨b, 192 + p * 8 + 7, none⟩ = some (.int .i64 (rp 7)) := by rw [hrp 7]; exact h.d p 7 (by omega) (by omega)
  have zb : ∀ i, w.frozen? ⟨b, i, none⟩ = false := h.fz
  have HN := Lib.hid hn
  have HRP := Lib.hid hrp
  have HPC := Lib.hid hpc
  have hpc' : ((p : Int) == (c : Int)) = false := by simp; omega
  clear h h1 h2 h3 h4 hb hrc hn hrp hpc
  go_enter Tryz.func253, Tryz.ntmps253
  go_wp2_with fail
  refine (HO.out _).mono ?_
  rintro e w1 ⟨rfl, rfl⟩
  go_wp2_with fail
  refine (HO2.out _).mono ?_
  rintro e w1 ⟨rfl, rfl⟩
  go_wp2_with fail
  go_loop [8, 25] (fun u i => ∃ k : Nat, k ≤ 8 ∧ i = .int .i64 k) (fun _ i => 8 - (intOf i).toNat)
  case atStart => exact ⟨0, by omega, rfl⟩
  case round =>
    obtain ⟨k, hk8, rfl⟩ := hrel
    by_cases hlt : k < 8
    · have hki : (k : Int) < 8 := by omega
      have hix := row_at rc k hlt w
      have hz' : ((rc k : Int) != 0) = false := by simp [HZR.out k hlt]
      go_wp2
      go_round
      case rel => exact ⟨k + 1, by omega, rfl⟩
      case measure => simp [intOf]; omega
    · obtain rfl : k = 8 := by omega
      go_wp2_with fail
      go_region
      have HT := Lib.hid (HH.out.setRow HC.out rp HRP.out).drew
      have HK := Lib.hid ((((((((((KB.rfl' b w).setc (192 + c * 8) (.int .i64 (rp 0))).setc (192 + c * 8 + 1) (.int .i64 (rp 1))).setc (192 + c * 8 + 2) (.int .i64 (rp 2))).setc (192 + c * 8 + 3) (.int .i64 (rp 3))).setc (192 + c * 8 + 4) (.int .i64 (rp 4))).setc (192 + c * 8 + 5) (.int .i64 (rp 5))).setc (192 + c * 8 + 6) (.int .i64 (rp 6))).setc (192 + c * 8 + 7) (.int .i64 (rp 7))).drew)
      clear zb rcd0 rcd1 rcd2 rcd3 rcd4 rcd5 rcd6 rcd7 rpd0 rpd1 rpd2 rpd3 rpd4 rpd5 rpd6 rpd7
      revert HT HK
      generalize hw2 : World.drew _ = w2
      intro HT HK
      clear hw2
      have hre : ∀ i, i < 8 → rp i = cpD fd p c 8 (p * 8 + i) := fun i hi => by rw [cpD_at, if_neg (by have := HPC.out; omega), HRP.out]
      have red0 : w2.cell? ⟨b, 192 + p * 8, none⟩ = some (.int .i64 (rp 0)) := by rw [hre 0 (by omega)]; exact HT.out.d p 0 HP.out (by omega)
      have red1 : w2.cell? ⟨b, 192 + p * 8 + 1, none⟩ = some (.int .i64 (rp 1)) := by rw [hre 1 (by omega)]; exact HT.out.d p 1 HP.out (by omega)
      have red2 : w2.cell? ⟨b, 192 + p * 8 + 2, none⟩ = some (.int .i64 (rp 2)) := by rw [hre 2 (by omega)]; exact HT.out.d p 2 HP.out (by omega)
      have red3 : w2.cell? ⟨b, 192 + p * 8 + 3, none⟩ = some (.int .i64 (rp 3)) := by rw [hre 3 (by omega)]; exact HT.out.d p 3 HP.out (by omega)
      have red4 : w2.cell? ⟨b, 192 + p * 8 + 4, none⟩ = some (.int .i64 (rp 4)) := by rw [hre 4 (by omega)]; exact HT.out.d p 4 HP.out (by omega)
      have red5 : w2.cell? ⟨b, 192 + p * 8 + 5, none⟩ = some (.int .i64 (rp 5)) := by rw [hre 5 (by omega)]; exact HT.out.d p 5 HP.out (by omega)
      have red6 : w2.cell? ⟨b, 192 + p * 8 + 6, none⟩ = some (.int .i64 (rp 6)) := by rw [hre 6 (by omega)]; exact HT.out.d p 6 HP.out (by omega)
      have red7 : w2.cell? ⟨b, 192 + p * 8 + 7, none⟩ = some (.int .i64 (rp 7)) := by rw [hre 7 (by omega)]; exact HT.out.d p 7 HP.out (by omega)
      clear hre
      go_wp2_with fail
      clear red0 red1 red2 red3 red4 red5 red6 red7
      have HLE := Lib.hid (fun i => HH.out.le (p * 8 + i))
      go_loopw [10, 51] (fun u i wr => ∃ k : Nat, k ≤ 8 ∧ i = .int .i64 k ∧ Hid (KB b w wr) ∧ Hid (OTab wr b (fkF fs rp k) (cpD fd p c 8))) (fun _ i _ => 8 - (intOf i).toNat)
      case atStart => exact ⟨0, by omega, rfl, HK, HT⟩
      case round =>
        obtain ⟨k, hk8, rfl, HK1, HT1⟩ := hrel
        by_cases hlt : k < 8
        · have hki : (k : Int) < 8 := by omega
          have hix := row_at rp k hlt wr
          by_cases hz : rp k = 0
          · have hz' : ((rp k : Int) != 0) = false := by simp [hz]
            have HZ := Lib.hid hz
            clear hz
            go_wp2
            go_roundw
            case rel => exact ⟨k + 1, by omega, rfl, HK1, by have := HT1.out; rw [fkF, if_pos HZ.out]; exact this⟩
            case measure => simp [intOf]; omega
          · obtain ⟨q, hq⟩ : ∃ q, rp k = q + 1 := ⟨rp k - 1, by omega⟩
            have hq32 : q < 32 := by have := HLE.out k; rw [← HRP.out] at this; omega
            have HQ := Lib.hid hq32
            have HQQ := Lib.hid hq
            rw [hq, show ((q + 1 : Nat) : Int) = (q : Int) + 1 from rfl] at hix
            have hqi : (q : Int) < 32 := by omega
            have hz' : ((q : Int) + 1 != 0) = true := by simp; omega
            have c5 := HT1.out.c5 q hq32
            have zb : ∀ i, wr.frozen? ⟨b, i, none⟩ = false := HT1.out.fz
            have hb1 := (fkF_le fs rp k q)
            have hb2 := HN.out q hq32
            have hb3 : 0 ≤ (fkF fs rp k q).n ∧ (fkF fs rp k q).n ≤ 300 := by omega
            clear hb1 hb2 hz hq hq32
            go_wp2_with fail
            go_region
            go_wp2
            go_roundw
            case rel => exact ⟨k + 1, by omega, rfl, Lib.hid (HK1.out.setc _ _).drew, Lib.hid (by
              have e : fkF fs rp (k + 1) = updF (fkF fs rp k) q { fkF fs rp k q with n := (fkF fs rp k q).n + 1 } := by
                rw [fkF, if_neg (by rw [HQQ.out]; omega), HQQ.out]; rfl
              rw [e]
              exact (HT1.out.setN HQ.out _).drew)⟩
            case measure => simp [intOf]; omega
        · obtain rfl : k = 8 := by omega
          go_wp2
          go_ret
          exact ⟨rfl, HK1.out, HT1.out⟩
end Go.Proofs.YtnbhohaphmilmaaGreatDoor.OpenLaw
namespace Go.Proofs.YtnbhohaphmilmaaGreatDoor.ProcLaw
set_option linter.unusedSimpArgs false
open Go.RowKit
set_option linter.unusedVariables false

def ForkPost (t : T) (b : Nat) (p : Int) (w : World) (e : Ending) (w' : World) : Prop :=
  ∃ r en t', e = .returned (.tuple #[.int .i64 r, .int .i64 en]) ∧ Upd (fun k => k = b) w w' ∧ TabAt w' b t' ∧
    ((en ≠ 0 ∧ t' = t ∧ (livR t p ≠ 0 ∨ ∀ k, 1 ≤ k → k ≤ 16 → (t k).st ≠ 0)) ∨ (en = 0 ∧ ∃ k q : Nat, r = k ∧ 1 ≤ k ∧ k ≤ 16 ∧ (t k).st = 0 ∧ (∀ j, 1 ≤ j → j < k → (t j).st ≠ 0) ∧ p = q ∧ alive t q ∧ t' = forked t k q))
set_option maxRecDepth 100000 in
set_option maxHeartbeats 4000000 in
theorem fork_is {w : World} {b : Nat} {t : T} (p : Int) (h : TabAt w b t) : Calls Tryz.prog 252 #[.pointer (some ⟨b, 0, none⟩), .int .i64 p] w (ForkPost t b p w) := by
  have HL := Lib.hid (living_is p h)
  have HT := Lib.hid h
  by_cases hl : livR t p = 0
  · obtain ⟨q, rfl, ha⟩ := livR_zero hl
    have HA := Lib.hid ha
    have HZ := Lib.hid hl
    obtain ⟨q1, q2, q3⟩ := ha
    have hq : (q : Int) < 17 := by omega
    have cg := h.gr q (by omega)
    clear hl q3 h
    go_enter Tryz.func252, Tryz.ntmps252
    go_wp2_with fail
    refine HL.out.mono ?_
    rintro e w1 ⟨rfl, rfl⟩
    rw [HZ.out]
    go_wp2
    go_loop [7] (fun i => ∃ k : Nat, 1 ≤ k ∧ k ≤ 17 ∧ i = .int .i64 k ∧ Hid (∀ j, 1 ≤ j → j < k → (t j).st ≠ 0)) (fun i => 17 - (intOf i).toNat)
    case atStart => exact ⟨1, by omega, by omega, rfl, fun j h1 h2 => absurd h2 (by omega)⟩
    case round =>
      obtain ⟨k, k1, k2, rfl, HK⟩ := hrel
      by_cases hlt : k ≤ 16
      · have hk : (k : Int) < 17 := by omega
        have c0 := HT.out.st k (by omega)
        by_cases hs : (t k).st = 0
        · have HS := Lib.hid hs
          rw [hs] at c0
          have c1 := HT.out.par k (by omega)
          have c2 := HT.out.gr k (by omega)
          have c3 := HT.out.code k (by omega)
          have f0 := HT.out.fz (k * 4)
          have f1 := HT.out.fz (k * 4 + 1)
          have f2 := HT.out.fz (k * 4 + 2)
          have f3 := HT.out.fz (k * 4 + 3)
          have HKK := Lib.hid (And.intro k1 hlt)
          clear hs
          go_wp2_with fail
          go_region
          all_goals
            go_wp2
            go_ret2
            refine ⟨k, 0, _, rfl, ?_, ?_, .inr ⟨rfl, k, q, rfl, HKK.out.1, HKK.out.2, HS.out, HK.out, rfl, HA.out, rfl⟩⟩
            · repeat (first | exact Upd.refl _ _ | refine Upd.trans ?_ (Upd.drew _) | refine Upd.trans ?_ (Upd.set _ _ rfl))
            · first | exact (HT.out.set4 (by omega) 1 q (t q).gr 0).drew | exact HT.out.drew.set4 (by omega) 1 q (t q).gr 0
        · have hs' : ((t k).st == 0) = false := by simp [hs]
          have HS := Lib.hid hs
          clear hs
          go_wp2
          go_round
          case rel =>
            refine ⟨k + 1, by omega, by omega, by go_num, fun j h1 h2 => ?_⟩
            rcases Nat.lt_succ_iff_lt_or_eq.1 h2 with h | rfl
            · exact HK.out j h1 h
            · exact HS.out
          case measure => simp [intOf]; omega
      · obtain rfl : k = 17 := by omega
        go_wp2
        go_ret2
        exact ⟨0, 6, t, rfl, Upd.refl _ _, HT.out, .inl ⟨by decide, rfl, .inr fun k h1 h2 => HK.out k h1 (by omega)⟩⟩
  · have hl' : (livR t p != 0) = true := by simp [hl]
    have HZ := Lib.hid hl
    clear hl h
    generalize hx : livR t p = x at *
    go_enter Tryz.func252, Tryz.ntmps252
    go_wp2_with fail
    refine HL.out.mono ?_
    rintro e w1 ⟨rfl, rfl⟩
    go_wp2
    go_ret2
    exact ⟨0, x, t, rfl, Upd.refl _ _, HT.out, .inl ⟨HZ.out, rfl, .inl (by rw [hx]; exact HZ.out)⟩⟩
end Go.Proofs.YtnbhohaphmilmaaGreatDoor.ProcLaw
namespace Go.Proofs.YtnbhohaphmilmaaGreatDoor.ProcLaw
set_option linter.unusedSimpArgs false
open Go.RowKit
set_option linter.unusedVariables false

def ExitPost (t : T) (b : Nat) (p c : Int) (w : World) (e : Ending) (w' : World) : Prop :=
  ∃ r en t', e = .returned (.tuple #[.int .i64 r, .int .i64 en]) ∧ Upd (fun k => k = b) w w' ∧ TabAt w' b t' ∧
    ((en ≠ 0 ∧ t' = t ∧ (livR t p ≠ 0 ∨ p = 1)) ∨ (en = 0 ∧ ∃ q : Nat, p = q ∧ alive t q ∧ q ≠ 1 ∧ t' = ended t q (bits .and .i64 c 255) ∧ r = (t' q).par))
theorem orphan_yes {p : Nat} {e : E} (h : e.st ≠ 0) (h2 : e.par = p) : orphan p e = ⟨e.st, 1, e.gr, e.code⟩ := if_pos ⟨h, h2⟩
theorem orphan_no {p : Nat} {e : E} (h : ¬ (e.st ≠ 0 ∧ e.par = p)) : orphan p e = e := if_neg h
theorem lost_stay {t : T} {p k : Nat} (h : ¬ ((t k).st ≠ 0 ∧ (t k).par = p)) : lost t p (k + 1) = lost t p k := by
  rw [lost_next, orphan_no h]
  funext j
  by_cases e : j = k
  · subst e; rw [updE_same, lost_at]
  · rw [updE_other _ _ e]
theorem lost_go {t : T} {p k : Nat} (h : (t k).st ≠ 0) (h2 : (t k).par = p) : lost t p (k + 1) = updE (lost t p k) k ⟨(t k).st, 1, (t k).gr, (t k).code⟩ := by
  rw [lost_next, orphan_yes h h2]
theorem ended_at {t : T} {q : Nat} {c : Int} : updE (lost t q 17) q ⟨2, (lost t q 17 q).par, (lost t q 17 q).gr, c⟩ = ended t q c := rfl
theorem TabAt.endA {w : World} {b q : Nat} {t : T} {c : Int} (h : TabAt w b (lost t q 17)) (hq : q < 17) : TabAt ((w.setCell ⟨b, q * 4, none⟩ (.int .i64 2)).setCell ⟨b, q * 4 + 3, none⟩ (.int .i64 c)) b (ended t q c) := by
  have h2 := (h.setSt hq 2).setCode hq c
  rw [updE_same, updE_twice] at h2
  exact h2
theorem TabAt.endB {w : World} {b q : Nat} {t : T} {c : Int} (h : TabAt w b (lost t q 17)) (hq : q < 17) : TabAt ((w.setCell ⟨b, q * 4 + 3, none⟩ (.int .i64 c)).setCell ⟨b, q * 4, none⟩ (.int .i64 2)) b (ended t q c) := by
  have h2 := (h.setCode hq c).setSt hq 2
  rw [updE_same, updE_twice] at h2
  exact h2

set_option maxRecDepth 100000 in
set_option maxHeartbeats 4000000 in
theorem exit_is {w : World} {b : Nat} {t : T} (p c : Int) (h : TabAt w b t) : Calls Tryz.prog 151 #[.pointer (some ⟨b, 0, none⟩), .int .i64 p, .int .i64 c] w (ExitPost t b p c w) := by
  have HL := Lib.hid (living_is p h)
  have HT := Lib.hid h
  by_cases hl : livR t p = 0
  · obtain ⟨q, rfl, ha⟩ := livR_zero hl
    have HA := Lib.hid ha
    have HZ := Lib.hid hl
    obtain ⟨q1, q2, q3⟩ := ha
    have hq : (q : Int) < 17 := by omega
    clear hl q3 h
    by_cases h1 : q = 1
    · subst h1
      go_enter Tryz.func151, Tryz.ntmps151
      go_wp2_with fail
      refine HL.out.mono ?_
      rintro e w1 ⟨rfl, rfl⟩
      rw [HZ.out]
      go_wp2
      go_ret2
      exact ⟨0, 7, t, rfl, Upd.refl _ _, HT.out, .inl ⟨by decide, rfl, .inr rfl⟩⟩
    · have h1' : ((q : Int) == 1) = false := by simp; omega
      have H1 := Lib.hid h1
      clear h1
      go_enter Tryz.func151, Tryz.ntmps151
      go_wp2_with fail
      refine HL.out.mono ?_
      rintro e w1 ⟨rfl, rfl⟩
      rw [HZ.out]
      go_wp2
      go_loopw [18] (fun i wr => ∃ k : Nat, k ≤ 17 ∧ i = .int .i64 k ∧ Upd (fun k => k = b) w wr ∧ Hid (TabAt wr b (lost t q k))) (fun i _ => 17 - (intOf i).toNat)
      case atStart => exact ⟨0, by omega, rfl, Upd.refl _ _, by rw [lost_zero]; exact HT.out⟩
      case round =>
        obtain ⟨k, k2, rfl, hbel, HK⟩ := hrel
        by_cases hlt : k < 17
        · have hk : (k : Int) < 17 := by omega
          have c0 := HK.out.st k (by omega)
          have c1 := HK.out.par k (by omega)
          have f1 := HK.out.fz (k * 4 + 1)
          rw [lost_at] at c0 c1
          have HLT := Lib.hid hlt
          by_cases hs : (t k).st = 0
          · have HS := Lib.hid hs
            rw [hs] at c0
            clear hs
            go_wp2
            go_roundw
            case rel => exact ⟨k + 1, by omega, by go_num, hbel, by rw [lost_stay (fun h => h.1 HS.out)]; exact HK.out⟩
            case measure => simp [intOf]; omega
          · have hs' : ((t k).st != 0) = true := by simp [hs]
            have HS := Lib.hid hs
            clear hs
            by_cases hp : (t k).par = q
            · have HP := Lib.hid hp
              have hp' : ((t k).par == (q : Int)) = true := by simp [hp]
              have hset : TabAt (wr.setCell ⟨b, k * 4 + 1, none⟩ (.int .i64 1)) b (lost t q (k + 1)) := by
                rw [lost_go HS.out hp]
                have := HK.out.setPar (k := k) (by omega) 1
                rwa [lost_at] at this
              have HSET := Lib.hid hset
              clear hp hset
              go_wp2
              go_roundw
              case rel => exact ⟨k + 1, by omega, by go_num, hbel.trans (Upd.set _ _ rfl), HSET.out⟩
              case measure => simp [intOf]; omega
            · have hp' : ((t k).par == (q : Int)) = false := by simp [hp]
              have HP := Lib.hid hp
              clear hp
              go_wp2
              go_roundw
              case rel => exact ⟨k + 1, by omega, by go_num, hbel, by rw [lost_stay (fun h => HP.out h.2)]; exact HK.out⟩
              case measure => simp [intOf]; omega
        · obtain rfl : k = 17 := by omega
          have c0 := HK.out.st q (by omega)
          have c1 := HK.out.par q (by omega)
          have c3 := HK.out.code q (by omega)
          have f0 := HK.out.fz (q * 4)
          have f3 := HK.out.fz (q * 4 + 3)
          clear hlt k2
          go_wp2_with fail
          go_region
          all_goals
            go_wp2
            go_ret2
            refine ⟨_, 0, ended t q (bits .and .i64 c 255), rfl, ?_, ?_, .inr ⟨rfl, q, rfl, HA.out, H1.out, rfl, ?_⟩⟩
            · repeat (first | exact Upd.refl _ _ | refine Upd.trans ?_ (Upd.drew _) | refine Upd.trans ?_ (Upd.set _ _ rfl))
              exact hbel
            · first | exact (HK.out.endA (by omega)).drew | exact HK.out.drew.endA (by omega) | exact (HK.out.endB (by omega)).drew | exact HK.out.drew.endB (by omega)
            · rw [ended, updE_same]
  · have hl' : (livR t p != 0) = true := by simp [hl]
    have HZ := Lib.hid hl
    clear hl h
    generalize hx : livR t p = x at *
    go_enter Tryz.func151, Tryz.ntmps151
    go_wp2_with fail
    refine HL.out.mono ?_
    rintro e w1 ⟨rfl, rfl⟩
    go_wp2
    go_ret2
    exact ⟨0, x, t, rfl, Upd.refl _ _, HT.out, .inl ⟨HZ.out, rfl, .inl (by rw [hx]; exact HZ.out)⟩⟩

def WaitPost (t : T) (b : Nat) (p : Int) (w : World) (e : Ending) (w' : World) : Prop :=
  ∃ r c en t', e = .returned (.tuple #[.int .i64 r, .int .i64 c, .int .i64 en]) ∧ Upd (fun k => k = b) w w' ∧ TabAt w' b t' ∧
    ((en ≠ 0 ∧ t' = t ∧ (livR t p ≠ 0 ∨ (∀ j, j < 17 → ¬ ((t j).par = p ∧ (t j).st = 2)) ∧ (en = 9 ∧ (∃ j, j < 17 ∧ (t j).st ≠ 0 ∧ (t j).par = p) ∨ en = 4 ∧ ¬ ∃ j, j < 17 ∧ (t j).st ≠ 0 ∧ (t j).par = p))) ∨ (en = 0 ∧ ∃ k q : Nat, r = k ∧ k < 17 ∧ p = q ∧ alive t q ∧ (t k).st = 2 ∧ (t k).par = q ∧ (∀ j, j < k → ¬ ((t j).par = p ∧ (t j).st = 2)) ∧ c = (t k).code ∧ t' = updE t k e0))
set_option maxRecDepth 100000 in
set_option maxHeartbeats 4000000 in
theorem wait_is {w : World} {b : Nat} {t : T} (p : Int) (h : TabAt w b t) : Calls Tryz.prog 175 #[.pointer (some ⟨b, 0, none⟩), .int .i64 p] w (WaitPost t b p w) := by
  have HL := Lib.hid (living_is p h)
  have HT := Lib.hid h
  by_cases hl : livR t p = 0
  · obtain ⟨q, rfl, ha⟩ := livR_zero hl
    have HA := Lib.hid ha
    have HZ := Lib.hid hl
    clear hl h ha
    go_enter Tryz.func175, Tryz.ntmps175
    go_wp2_with fail
    refine HL.out.mono ?_
    rintro e w1 ⟨rfl, rfl⟩
    rw [HZ.out]
    go_wp2
    go_loop [8, 17] (fun s i => ∃ (k : Nat) (z : Bool), k ≤ 17 ∧ s = .bool z ∧ i = .int .i64 k ∧ Hid (∀ j, j < k → ¬ ((t j).par = (q : Int) ∧ (t j).st = 2)) ∧ Hid (z = true ↔ ∃ j, j < k ∧ (t j).st ≠ 0 ∧ (t j).par = (q : Int))) (fun _ i => 17 - (intOf i).toNat)
    case atStart => exact ⟨0, false, by omega, rfl, rfl, Lib.hid (fun j h2 => absurd h2 (by omega)), Lib.hid ⟨fun e => (by cases e), fun ⟨j, h, _⟩ => absurd h (by omega)⟩⟩
    case round =>
      obtain ⟨k, z, k2, rfl, rfl, HK, HZ2⟩ := hrel
      by_cases hlt : k < 17
      · have hk : (k : Int) < 17 := by omega
        have c0 := HT.out.st k (by omega)
        have c1 := HT.out.par k (by omega)
        have hnext : ¬ ((t k).par = (q : Int) ∧ (t k).st = 2) → ∀ j, j < k + 1 → ¬ ((t j).par = (q : Int) ∧ (t j).st = 2) := fun hn j hj => by
          rcases Nat.lt_succ_iff_lt_or_eq.1 hj with h | rfl
          · exact HK.out j h
          · exact hn
        have HNX := Lib.hid hnext
        clear hnext
        have HSA : Hid (¬ ((t k).st ≠ 0 ∧ (t k).par = (q : Int)) → (z = true ↔ ∃ j, j < k + 1 ∧ (t j).st ≠ 0 ∧ (t j).par = (q : Int))) := Lib.hid (fun hn => by
          rw [HZ2.out]
          constructor
          · rintro ⟨j, h1, h2⟩; exact ⟨j, by omega, h2⟩
          · rintro ⟨j, h1, h2⟩
            rcases Nat.lt_succ_iff_lt_or_eq.1 h1 with h | rfl
            · exact ⟨j, h, h2⟩
            · exact absurd h2 hn)
        by_cases hs : (t k).st = 0
        · have HS := Lib.hid hs
          rw [hs] at c0
          clear hs
          go_wp2
          go_round
          case rel => exact ⟨k + 1, z, by omega, rfl, by go_num, Lib.hid (HNX.out (fun h => by rw [HS.out] at h; cases h.2)), Lib.hid (HSA.out (fun h => h.1 HS.out))⟩
          case measure => simp [intOf]; omega
        · have hs' : ((t k).st == 0) = false := by simp [hs]
          have HS := Lib.hid hs
          clear hs
          by_cases hp : (t k).par = q
          · have HP := Lib.hid hp
            rw [hp] at c1
            clear hp
            by_cases h2 : (t k).st = 2
            · have H2 := Lib.hid h2
              rw [h2] at c0 hs'
              have c2 := HT.out.gr k (by omega)
              have c3 := HT.out.code k (by omega)
              have f0 := HT.out.fz (k * 4)
              have f1 := HT.out.fz (k * 4 + 1)
              have f2 := HT.out.fz (k * 4 + 2)
              have f3 := HT.out.fz (k * 4 + 3)
              have HLT := Lib.hid hlt
              clear h2
              go_wp2
              refine bodyPost_ret (v := .tuple #[.int .i64 k, .int .i64 (t k).code, .int .i64 0]) (by simp [results, Tryz.results175, go_sem]) rfl ⟨k, (t k).code, 0, updE t k e0, rfl, ?_, ?_, .inr ⟨rfl, k, q, rfl, HLT.out, rfl, HA.out, H2.out, HP.out, HK.out, rfl, rfl⟩⟩
              · repeat (first | exact Upd.refl _ _ | refine Upd.trans ?_ (Upd.drew _) | refine Upd.trans ?_ (Upd.set _ _ rfl))
              · exact HT.out.set4 (by omega) 0 0 0 0
            · have h2' : ((t k).st == 2) = false := by simp [h2]
              have H2 := Lib.hid h2
              clear h2
              go_wp2
              go_round
              case rel => exact ⟨k + 1, true, by omega, rfl, by go_num, Lib.hid (HNX.out (fun h => H2.out h.2)), Lib.hid ⟨fun _ => ⟨k, by omega, HS.out, HP.out⟩, fun _ => rfl⟩⟩
              case measure => simp [intOf]; omega
          · have hp' : ((t k).par != (q : Int)) = true := by simp [hp]
            have HP := Lib.hid hp
            clear hp
            go_wp2
            go_round
            case rel => exact ⟨k + 1, z, by omega, rfl, by go_num, Lib.hid (HNX.out (fun h => HP.out h.1)), Lib.hid (HSA.out (fun h => HP.out h.2))⟩
            case measure => simp [intOf]; omega
      · obtain rfl : k = 17 := by omega
        cases z
        · go_wp2
          refine bodyPost_ret (v := .tuple #[.int .i64 0, .int .i64 0, .int .i64 4]) (by simp [results, Tryz.results175, go_sem]) rfl ⟨0, 0, 4, t, rfl, Upd.refl _ _, HT.out, .inl ⟨by decide, rfl, .inr ⟨HK.out, .inr ⟨rfl, fun e => by have := HZ2.out.2 e; cases this⟩⟩⟩⟩
        · go_wp2
          refine bodyPost_ret (v := .tuple #[.int .i64 0, .int .i64 0, .int .i64 9]) (by simp [results, Tryz.results175, go_sem]) rfl ⟨0, 0, 9, t, rfl, Upd.refl _ _, HT.out, .inl ⟨by decide, rfl, .inr ⟨HK.out, .inl ⟨rfl, HZ2.out.1 trivial⟩⟩⟩⟩
  · have hl' : (livR t p != 0) = true := by simp [hl]
    have HZ := Lib.hid hl
    clear hl h
    generalize hx : livR t p = x at *
    go_enter Tryz.func175, Tryz.ntmps175
    go_wp2_with fail
    refine HL.out.mono ?_
    rintro e w1 ⟨rfl, rfl⟩
    go_wp2
    refine bodyPost_ret (v := .tuple #[.int .i64 0, .int .i64 0, .int .i64 x]) (by simp [results, Tryz.results175, go_sem]) rfl ⟨0, 0, x, t, rfl, Upd.refl _ _, HT.out, .inl ⟨HZ.out, rfl, .inl (by rw [hx]; exact HZ.out)⟩⟩
end Go.Proofs.YtnbhohaphmilmaaGreatDoor.ProcLaw
