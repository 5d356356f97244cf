/- The walk of package open: Fork. The walks of proc.Fork, Exit, Wait. The walks of proc.Exit, proc.Wait. Walks of parts of a process's end and of its birth: open.Drop at no descriptors, wheel.Out at no timers, sig.Child, Send, Next. The walk of spread's Leave at any run. The walks of space: here, ask, room, Make, at any memory. The walks of space: add, span, at any memory. The walks of space: span, Map, at any memory. The walks of space's let, and of slices.DeleteFunc at its pages. The walk of space's Drop, at a space whose pages nobody shares. -/
import Derived.Test.YtlfemcbfclallaaGreatDoorForest
import Derived.Test.YtlfemcbfclallaaGreatDoorProcWalk
import Derived.Test.YtlfemcbfclallaaGreatDoorDisk
import Derived.Test.YtlfemcbfclallaaGreatDoorKerQ
import Derived.Test.YtlfemcbfclallaaGreatDoorSpA
import Derived.BigQuiet
import Derived.Deep.RegionHeld3
import Derived.Test.YtlfemcbfclallaaGreatDoorSprC
import Derived.Lib.SliceRun
import Derived.LaidEqlPtr
import Derived.Maps.RangeWalk
namespace Go.Proofs.YtlfemcbfclallaaGreatDoor.OpenLaw
set_option linter.unusedSimpArgs false
open Go.RowKit
set_option linter.unusedVariables false
def cpD (fd : Nat → Nat) (p c : Nat) : Nat → Nat → Nat
  | 0 => fd
  | n + 1 => updN (cpD fd p c n) (c * 8 + n) (fd (p * 8 + n))
theorem cpD_at (fd : Nat → Nat) (p c n q : Nat) : cpD fd p c n q = if c * 8 ≤ q ∧ q < c * 8 + n then fd (p * 8 + (q - c * 8)) else fd q := by
  induction n with
  | zero => rw [cpD, if_neg (by omega)]
  | succ n ih =>
    rw [cpD, updN]
    by_cases e : q = c * 8 + n
    · rw [if_pos e, if_pos (by omega), e]
      congr 1
      omega
    · rw [if_neg e, ih]
      by_cases e2 : c * 8 ≤ q ∧ q < c * 8 + n
      · rw [if_pos e2, if_pos (by omega)]
      · rw [if_neg e2, if_neg (by omega)]
def fkF (fs : Nat → F) (r : Nat → Nat) : Nat → Nat → F
  | 0 => fs
  | n + 1 => if r n = 0 then fkF fs r n else updF (fkF fs r n) (r n - 1) { fkF fs r n (r n - 1) with n := (fkF fs r n (r n - 1)).n + 1 }
theorem fkF_le (fs : Nat → F) (r : Nat → Nat) (n k : Nat) : (fs k).n ≤ (fkF fs r n k).n ∧ (fkF fs r n k).n ≤ (fs k).n + n := by
  induction n with
  | zero => exact ⟨Int.le_refl _, by simp [fkF]⟩
  | succ n ih =>
    rw [fkF]
    split
    · omega
    · by_cases e : k = r n - 1
      · rw [← e, updF_same]
        show (fs k).n ≤ (fkF fs r n k).n + 1 ∧ (fkF fs r n k).n + 1 ≤ _
        omega
      · rw [updF_other _ _ e]
        omega
theorem OTab.setRow {w : World} {b p c : Nat} {fs : Nat → F} {fd : Nat → Nat} (h : OTab w b fs fd) (hc : c < 17) (r : Nat → Nat) (hr : ∀ i, r i = fd (p * 8 + i)) :
    OTab ((((((((w.setCell ⟨b, 192 + c * 8, none⟩ (.int .i64 (r 0))).setCell ⟨b, 192 + c * 8 + 1, none⟩ (.int .i64 (r 1))).setCell ⟨b, 192 + c * 8 + 2, none⟩ (.int .i64 (r 2))).setCell ⟨b, 192 + c * 8 + 3, none⟩ (.int .i64 (r 3))).setCell ⟨b, 192 + c * 8 + 4, none⟩ (.int .i64 (r 4))).setCell ⟨b, 192 + c * 8 + 5, none⟩ (.int .i64 (r 5))).setCell ⟨b, 192 + c * 8 + 6, none⟩ (.int .i64 (r 6))).setCell ⟨b, 192 + c * 8 + 7, none⟩ (.int .i64 (r 7))) b fs (cpD fd p c 8) := by
  have L := h.le
  rw [hr, hr, hr, hr, hr, hr, hr, hr]
  have s0 : OTab (w.setCell ⟨b, 192 + c * 8, none⟩ (.int .i64 (fd (p * 8 + 0)))) b fs (cpD fd p c 1) := h.setD hc (j := 0) (by omega) (x := fd (p * 8 + 0)) (L _)
  have s1 : OTab _ b fs (cpD fd p c 2) := s0.setD hc (j := 1) (by omega) (x := fd (p * 8 + 1)) (L _)
  have s2 : OTab _ b fs (cpD fd p c 3) := s1.setD hc (j := 2) (by omega) (x := fd (p * 8 + 2)) (L _)
  have s3 : OTab _ b fs (cpD fd p c 4) := s2.setD hc (j := 3) (by omega) (x := fd (p * 8 + 3)) (L _)
  have s4 : OTab _ b fs (cpD fd p c 5) := s3.setD hc (j := 4) (by omega) (x := fd (p * 8 + 4)) (L _)
  have s5 : OTab _ b fs (cpD fd p c 6) := s4.setD hc (j := 5) (by omega) (x := fd (p * 8 + 5)) (L _)
  have s6 : OTab _ b fs (cpD fd p c 7) := s5.setD hc (j := 6) (by omega) (x := fd (p * 8 + 6)) (L _)
  have s7 : OTab _ b fs (cpD fd p c 8) := s6.setD hc (j := 7) (by omega) (x := fd (p * 8 + 7)) (L _)
  exact s7
set_option maxRecDepth 100000 in
set_option maxHeartbeats 400000 in
theorem fork_is {w : World} {b p c : Nat} {fs : Nat → F} {fd : Nat → Nat} (h : OTab w b fs fd) (h1 : 1 ≤ p) (h2 : p ≤ 16) (h3 : 1 ≤ c) (h4 : c ≤ 16) (hpc : p ≠ c) (hb : ∀ i, i < 8 → fd (c * 8 + i) = 0) (hn : ∀ k, k < 32 → 0 ≤ (fs k).n ∧ (fs k).n ≤ 200) :
    Calls Tryz.prog 177 #[.pointer (some ⟨b, 0, none⟩), .int .i64 p, .int .i64 c] w fun e w' => e = .returned (.int .i64 0) ∧ KB b w w' ∧ OTab w' b (fkF fs (fun i => fd (p * 8 + i)) 8) (cpD fd p c 8) := by
  have HO := Lib.hid (owner_is h1 h2)
  have HO2 := Lib.hid (owner_is h3 h4)
  obtain ⟨rc, hrc⟩ : ∃ r : Nat → Nat, ∀ i, r i = fd (c * 8 + i) := ⟨fun i => fd (c * 8 + i), fun _ => rfl⟩
  have rcd0 : w.cell? ⟨b, 192 + c * 8, none⟩ = some (.int .i64 (rc 0)) := by rw [hrc 0]; exact h.d c 0 (by omega) (by omega)
  have rcd1 : w.cell? ⟨b, 192 + c * 8 + 1, none⟩ = some (.int .i64 (rc 1)) := by rw [hrc 1]; exact h.d c 1 (by omega) (by omega)
  have rcd2 : w.cell? ⟨b, 192 + c * 8 + 2, none⟩ = some (.int .i64 (rc 2)) := by rw [hrc 2]; exact h.d c 2 (by omega) (by omega)
  have rcd3 : w.cell? ⟨b, 192 + c * 8 + 3, none⟩ = some (.int .i64 (rc 3)) := by rw [hrc 3]; exact h.d c 3 (by omega) (by omega)
  have rcd4 : w.cell? ⟨b, 192 + c * 8 + 4, none⟩ = some (.int .i64 (rc 4)) := by rw [hrc 4]; exact h.d c 4 (by omega) (by omega)
  have rcd5 : w.cell? ⟨b, 192 + c * 8 + 5, none⟩ = some (.int .i64 (rc 5)) := by rw [hrc 5]; exact h.d c 5 (by omega) (by omega)
  have rcd6 : w.cell? ⟨b, 192 + c * 8 + 6, none⟩ = some (.int .i64 (rc 6)) := by rw [hrc 6]; exact h.d c 6 (by omega) (by omega)
  have rcd7 : w.cell? ⟨b, 192 + c * 8 + 7, none⟩ = some (.int .i64 (rc 7)) := by rw [hrc 7]; exact h.d c 7 (by omega) (by omega)
  have hpi : (p : Int) < 17 := by omega
  have hci : (c : Int) < 17 := by omega
  have HH := Lib.hid h
  have HP := Lib.hid (show p < 17 by omega)
  have HC := Lib.hid (show c < 17 by omega)
  have HZR := Lib.hid (show ∀ i, i < 8 → rc i = 0 from fun i hi => by rw [hrc]; exact hb i hi)
  obtain ⟨rp, hrp⟩ : ∃ r : Nat → Nat, r = fun i => fd (p * 8 + i) := ⟨_, rfl⟩
  rw [← hrp]
  replace hrp : ∀ i, rp i = fd (p * 8 + i) := fun i => by rw [hrp]
  have rpd0 : w.cell? ⟨b, 192 + p * 8, none⟩ = some (.int .i64 (rp 0)) := by rw [hrp 0]; exact h.d p 0 (by omega) (by omega)
  have rpd1 : w.cell? ⟨b, 192 + p * 8 + 1, none⟩ = some (.int .i64 (rp 1)) := by rw [hrp 1]; exact h.d p 1 (by omega) (by omega)
  have rpd2 : w.cell? ⟨b, 192 + p * 8 + 2, none⟩ = some (.int .i64 (rp 2)) := by rw [hrp 2]; exact h.d p 2 (by omega) (by omega)
  have rpd3 : w.cell? ⟨b, 192 + p * 8 + 3, none⟩ = some (.int .i64 (rp 3)) := by rw [hrp 3]; exact h.d p 3 (by omega) (by omega)
  have rpd4 : w.cell? ⟨b, 192 + p * 8 + 4, none⟩ = some (.int .i64 (rp 4)) := by rw [hrp 4]; exact h.d p 4 (by omega) (by omega)
  have rpd5 : w.cell? ⟨b, 192 + p * 8 + 5, none⟩ = some (.int .i64 (rp 5)) := by rw [hrp 5]; exact h.d p 5 (by omega) (by omega)
  have rpd6 : w.cell? ⟨b, 192 + p * 8 + 6, none⟩ = some (.int .i64 (rp 6)) := by rw [hrp 6]; exact h.d p 6 (by omega) (by omega)
  have rpd7 : w.cell? ⟨b, 192 + p * 8 + 7, none⟩ = some (.int .i64 (rp 7)) := by rw [hrp 7]; exact h.d p 7 (by omega) (by omega)
  have zb : ∀ i, w.frozen? ⟨b, i, none⟩ = false := h.fz
  have HN := Lib.hid hn
  have HRP := Lib.hid hrp
  have HPC := Lib.hid hpc
  have hpc' : ((p : Int) == (c : Int)) = false := by simp; omega
  clear h h1 h2 h3 h4 hb hrc hn hrp hpc
  go_enter Tryz.func177, Tryz.ntmps177
  go_wp2_with fail
  refine (HO.out _).mono ?_
  rintro e w1 ⟨rfl, rfl⟩
  go_wp2_with fail
  refine (HO2.out _).mono ?_
  rintro e w1 ⟨rfl, rfl⟩
  go_wp2_with fail
  go_loop [8, 25] (fun u i => ∃ k : Nat, k ≤ 8 ∧ i = .int .i64 k) (fun _ i => 8 - (intOf i).toNat)
  case atStart => exact ⟨0, by omega, rfl⟩
  case round =>
    obtain ⟨k, hk8, rfl⟩ := hrel
    by_cases hlt : k < 8
    · have hki : (k : Int) < 8 := by omega
      have hix := row_at rc k hlt w
      have hz' : ((rc k : Int) != 0) = false := by simp [HZR.out k hlt]
      go_wp2
      go_round
      case rel => exact ⟨k + 1, by omega, rfl⟩
      case measure => simp [intOf]; omega
    · obtain rfl : k = 8 := by omega
      go_wp2_with fail
      go_region
      have HT := Lib.hid (HH.out.setRow HC.out rp HRP.out).drew
      have HK := Lib.hid ((((((((((KB.rfl' b w).setc (192 + c * 8) (.int .i64 (rp 0))).setc (192 + c * 8 + 1) (.int .i64 (rp 1))).setc (192 + c * 8 + 2) (.int .i64 (rp 2))).setc (192 + c * 8 + 3) (.int .i64 (rp 3))).setc (192 + c * 8 + 4) (.int .i64 (rp 4))).setc (192 + c * 8 + 5) (.int .i64 (rp 5))).setc (192 + c * 8 + 6) (.int .i64 (rp 6))).setc (192 + c * 8 + 7) (.int .i64 (rp 7))).drew)
      clear zb rcd0 rcd1 rcd2 rcd3 rcd4 rcd5 rcd6 rcd7 rpd0 rpd1 rpd2 rpd3 rpd4 rpd5 rpd6 rpd7
      revert HT HK
      generalize hw2 : World.drew _ = w2
      intro HT HK
      clear hw2
      have hre : ∀ i, i < 8 → rp i = cpD fd p c 8 (p * 8 + i) := fun i hi => by rw [cpD_at, if_neg (by have := HPC.out; omega), HRP.out]
      have red0 : w2.cell? ⟨b, 192 + p * 8, none⟩ = some (.int .i64 (rp 0)) := by rw [hre 0 (by omega)]; exact HT.out.d p 0 HP.out (by omega)
      have red1 : w2.cell? ⟨b, 192 + p * 8 + 1, none⟩ = some (.int .i64 (rp 1)) := by rw [hre 1 (by omega)]; exact HT.out.d p 1 HP.out (by omega)
      have red2 : w2.cell? ⟨b, 192 + p * 8 + 2, none⟩ = some (.int .i64 (rp 2)) := by rw [hre 2 (by omega)]; exact HT.out.d p 2 HP.out (by omega)
      have red3 : w2.cell? ⟨b, 192 + p * 8 + 3, none⟩ = some (.int .i64 (rp 3)) := by rw [hre 3 (by omega)]; exact HT.out.d p 3 HP.out (by omega)
      have red4 : w2.cell? ⟨b, 192 + p * 8 + 4, none⟩ = some (.int .i64 (rp 4)) := by rw [hre 4 (by omega)]; exact HT.out.d p 4 HP.out (by omega)
      have red5 : w2.cell? ⟨b, 192 + p * 8 + 5, none⟩ = some (.int .i64 (rp 5)) := by rw [hre 5 (by omega)]; exact HT.out.d p 5 HP.out (by omega)
      have red6 : w2.cell? ⟨b, 192 + p * 8 + 6, none⟩ = some (.int .i64 (rp 6)) := by rw [hre 6 (by omega)]; exact HT.out.d p 6 HP.out (by omega)
      have red7 : w2.cell? ⟨b, 192 + p * 8 + 7, none⟩ = some (.int .i64 (rp 7)) := by rw [hre 7 (by omega)]; exact HT.out.d p 7 HP.out (by omega)
      clear hre
      go_wp2_with fail
      clear red0 red1 red2 red3 red4 red5 red6 red7
      have HLE := Lib.hid (fun i => HH.out.le (p * 8 + i))
      go_loopw [10, 51] (fun u i wr => ∃ k : Nat, k ≤ 8 ∧ i = .int .i64 k ∧ Hid (KB b w wr) ∧ Hid (OTab wr b (fkF fs rp k) (cpD fd p c 8))) (fun _ i _ => 8 - (intOf i).toNat)
      case atStart => exact ⟨0, by omega, rfl, HK, HT⟩
      case round =>
        obtain ⟨k, hk8, rfl, HK1, HT1⟩ := hrel
        by_cases hlt : k < 8
        · have hki : (k : Int) < 8 := by omega
          have hix := row_at rp k hlt wr
          by_cases hz : rp k = 0
          · have hz' : ((rp k : Int) != 0) = false := by simp [hz]
            have HZ := Lib.hid hz
            clear hz
            go_wp2
            go_roundw
            case rel => exact ⟨k + 1, by omega, rfl, HK1, by have := HT1.out; rw [fkF, if_pos HZ.out]; exact this⟩
            case measure => simp [intOf]; omega
          · obtain ⟨q, hq⟩ : ∃ q, rp k = q + 1 := ⟨rp k - 1, by omega⟩
            have hq32 : q < 32 := by have := HLE.out k; rw [← HRP.out] at this; omega
            have HQ := Lib.hid hq32
            have HQQ := Lib.hid hq
            rw [hq, show ((q + 1 : Nat) : Int) = (q : Int) + 1 from rfl] at hix
            have hqi : (q : Int) < 32 := by omega
            have hz' : ((q : Int) + 1 != 0) = true := by simp; omega
            have c5 := HT1.out.c5 q hq32
            have zb : ∀ i, wr.frozen? ⟨b, i, none⟩ = false := HT1.out.fz
            have hb1 := (fkF_le fs rp k q)
            have hb2 := HN.out q hq32
            have hb3 : 0 ≤ (fkF fs rp k q).n ∧ (fkF fs rp k q).n ≤ 300 := by omega
            clear hb1 hb2 hz hq hq32
            go_wp2_with fail
            go_region
            go_wp2
            go_roundw
            case rel => exact ⟨k + 1, by omega, rfl, Lib.hid (HK1.out.setc _ _).drew, Lib.hid (by
              have e : fkF fs rp (k + 1) = updF (fkF fs rp k) q { fkF fs rp k q with n := (fkF fs rp k q).n + 1 } := by
                rw [fkF, if_neg (by rw [HQQ.out]; omega), HQQ.out]; rfl
              rw [e]
              exact (HT1.out.setN HQ.out _).drew)⟩
            case measure => simp [intOf]; omega
        · obtain rfl : k = 8 := by omega
          go_wp2
          go_ret
          exact ⟨rfl, HK1.out, HT1.out⟩
end Go.Proofs.YtlfemcbfclallaaGreatDoor.OpenLaw
namespace Go.Proofs.YtlfemcbfclallaaGreatDoor.ProcLaw
set_option linter.unusedSimpArgs false
open Go.RowKit
set_option linter.unusedVariables false
def ForkPost (t : T) (b : Nat) (p : Int) (w : World) (e : Ending) (w' : World) : Prop :=
  ∃ r en t', e = .returned (.tuple #[.int .i64 r, .int .i64 en]) ∧ Upd (fun k => k = b) w w' ∧ TabAt w' b t' ∧
    ((en ≠ 0 ∧ t' = t ∧ (livR t p ≠ 0 ∨ ∀ k, 1 ≤ k → k ≤ 16 → (t k).st ≠ 0)) ∨ (en = 0 ∧ ∃ k q : Nat, r = k ∧ 1 ≤ k ∧ k ≤ 16 ∧ (t k).st = 0 ∧ (∀ j, 1 ≤ j → j < k → (t j).st ≠ 0) ∧ p = q ∧ alive t q ∧ t' = forked t k q))
set_option maxRecDepth 100000 in
set_option maxHeartbeats 4000000 in
theorem fork_is {w : World} {b : Nat} {t : T} (p : Int) (h : TabAt w b t) : Calls Tryz.prog 176 #[.pointer (some ⟨b, 0, none⟩), .int .i64 p] w (ForkPost t b p w) := by
  have HL := Lib.hid (living_is p h)
  have HT := Lib.hid h
  by_cases hl : livR t p = 0
  · obtain ⟨q, rfl, ha⟩ := livR_zero hl
    have HA := Lib.hid ha
    have HZ := Lib.hid hl
    obtain ⟨q1, q2, q3⟩ := ha
    have hq : (q : Int) < 17 := by omega
    have cg := h.gr q (by omega)
    clear hl q3 h
    go_enter Tryz.func176, Tryz.ntmps176
    go_wp2_with fail
    refine HL.out.mono ?_
    rintro e w1 ⟨rfl, rfl⟩
    rw [HZ.out]
    go_wp2
    go_loop [7] (fun i => ∃ k : Nat, 1 ≤ k ∧ k ≤ 17 ∧ i = .int .i64 k ∧ Hid (∀ j, 1 ≤ j → j < k → (t j).st ≠ 0)) (fun i => 17 - (intOf i).toNat)
    case atStart => exact ⟨1, by omega, by omega, rfl, fun j h1 h2 => absurd h2 (by omega)⟩
    case round =>
      obtain ⟨k, k1, k2, rfl, HK⟩ := hrel
      by_cases hlt : k ≤ 16
      · have hk : (k : Int) < 17 := by omega
        have c0 := HT.out.st k (by omega)
        by_cases hs : (t k).st = 0
        · have HS := Lib.hid hs
          rw [hs] at c0
          have c1 := HT.out.par k (by omega)
          have c2 := HT.out.gr k (by omega)
          have c3 := HT.out.code k (by omega)
          have f0 := HT.out.fz (k * 4)
          have f1 := HT.out.fz (k * 4 + 1)
          have f2 := HT.out.fz (k * 4 + 2)
          have f3 := HT.out.fz (k * 4 + 3)
          have HKK := Lib.hid (And.intro k1 hlt)
          clear hs
          go_wp2_with fail
          go_region
          all_goals
            go_wp2
            go_ret2
            refine ⟨k, 0, _, rfl, ?_, ?_, .inr ⟨rfl, k, q, rfl, HKK.out.1, HKK.out.2, HS.out, HK.out, rfl, HA.out, rfl⟩⟩
            · repeat (first | exact Upd.refl _ _ | refine Upd.trans ?_ (Upd.drew _) | refine Upd.trans ?_ (Upd.set _ _ rfl))
            · first | exact (HT.out.set4 (by omega) 1 q (t q).gr 0).drew | exact HT.out.drew.set4 (by omega) 1 q (t q).gr 0
        · have hs' : ((t k).st == 0) = false := by simp [hs]
          have HS := Lib.hid hs
          clear hs
          go_wp2
          go_round
          case rel =>
            refine ⟨k + 1, by omega, by omega, by go_num, fun j h1 h2 => ?_⟩
            rcases Nat.lt_succ_iff_lt_or_eq.1 h2 with h | rfl
            · exact HK.out j h1 h
            · exact HS.out
          case measure => simp [intOf]; omega
      · obtain rfl : k = 17 := by omega
        go_wp2
        go_ret2
        exact ⟨0, 6, t, rfl, Upd.refl _ _, HT.out, .inl ⟨by decide, rfl, .inr fun k h1 h2 => HK.out k h1 (by omega)⟩⟩
  · have hl' : (livR t p != 0) = true := by simp [hl]
    have HZ := Lib.hid hl
    clear hl h
    generalize hx : livR t p = x at *
    go_enter Tryz.func176, Tryz.ntmps176
    go_wp2_with fail
    refine HL.out.mono ?_
    rintro e w1 ⟨rfl, rfl⟩
    go_wp2
    go_ret2
    exact ⟨0, x, t, rfl, Upd.refl _ _, HT.out, .inl ⟨HZ.out, rfl, .inl (by rw [hx]; exact HZ.out)⟩⟩
end Go.Proofs.YtlfemcbfclallaaGreatDoor.ProcLaw

namespace Go.Proofs.YtlfemcbfclallaaGreatDoor.OpenLaw
open Go.RowKit
set_option linter.unusedVariables false
set_option linter.unusedSimpArgs false
def z5 : Array Value := #[.int .i64 0, .int .i64 0, .int .i64 0, .bool false, .int .i64 0]
end Go.Proofs.YtlfemcbfclallaaGreatDoor.OpenLaw
namespace Go.Proofs.YtlfemcbfclallaaGreatDoor.SigLaw
set_option linter.unusedSimpArgs false
open Go.RowKit
set_option linter.unusedVariables false
attribute [local go_sem ↓] load58_eq store58_eq zero58 cells58
theorem zeroG_bb : BB zeroG := ⟨⟨by decide, by decide⟩, by decide, by decide⟩
theorem zeroG_right : Right zeroG 0 0 := by constructor <;> first | rfl | decide | (intro i hi; simp [zeroG])
theorem zeroG_good : good zeroG := ⟨0, 0, zeroG_right⟩
set_option maxRecDepth 100000 in
set_option maxHeartbeats 1000000 in
theorem child_is (w : World) : Calls Tryz.prog 178 #[.agg (cellsA zeroG), .bool false] w fun e w' => e = .returned (.tuple #[.agg (cellsA zeroG), .int .i64 0]) ∧ Below w.heap.size w w' := by
  have HC := Lib.hid (check_b zeroG ((w.alloc (.cells (cellsA zeroG) 59)).alloc (.cells (cellsA zeroG) 59)) zeroG_bb)
  have HT := Lib.hid (two_new w zeroG)
  have hl := (two_new w zeroG).R.load
  go_enter Tryz.func178, Tryz.ntmps178
  go_wp2_with fail
  refine HC.out.mono ?_
  rintro e w1 ⟨en, rfl, hb1, hcase⟩
  have HT1 := Lib.hid (HT.out.keep hb1)
  clear hb1 hl HC HT
  rcases hcase with ⟨rfl, -⟩ | ⟨-, hg⟩
  · have HT2 : Hid (Two w (w1.setCell ⟨w.heap.size, 0, none⟩ (.int .i64 0)) w.heap.size (w.heap.size + 1) zeroG zeroG) := Lib.hid (HT1.out.setP 0)
    have c0 := HT1.out.R.c0
    have f0 := HT1.out.R.fz 0
    have hl := HT2.out.R.load
    have hz := HT2.out.Z.store zeroG
    go_wp2
    exact bodyPost_ret (v := .tuple #[.agg (cellsA zeroG), .int .i64 0]) (by rw [results_cell_tmp rfl]; simp [asAddr, Result.andThen, (HT2.out.store zeroG).Z.loadVar]) rfl ⟨rfl, (HT2.out.store zeroG).B⟩
  · exact absurd zeroG_good hg
end Go.Proofs.YtlfemcbfclallaaGreatDoor.SigLaw

namespace Go.Proofs.YtlfemcbfclallaaGreatDoor
open Go.RowKit Go.Maps
set_option linter.unusedVariables false
set_option linter.unusedSimpArgs false
theorem pp_get {l : List Nat} {i g : Nat} (h : l[i]? = some g) : (pp l)[i]? = some (.pointer (some ⟨g, 0, none⟩)) := by simp [pp, h]
theorem own_form1 {w : World} {B e n : Nat} {v : Value} {l : List Value} (h : w.ownsRow B e 1 v n l) : ∃ p cap, v = .slice p n cap ∧ n ≤ cap ∧ cap ≤ maxLen := by
  rcases h.2 with ⟨rfl, hn⟩ | ⟨g, cap', cur, rfl, _, _, h1, h2, _⟩
  · exact ⟨none, 0, by rw [hn], by omega, by unfold maxLen; omega⟩
  · exact ⟨_, cap', rfl, h1, h2⟩
section
variable {w w' : World} {M so g : Nat} {fr sl : Int} {m : MS}
theorem MemG.cells (h : MemG w M so fr sl m) : ∃ p cap, m.pv = .slice p m.pl.length cap ∧ m.pl.length ≤ cap ∧ cap ≤ maxLen ∧ ∀ i g, m.pl[i]? = some g → ∃ b, p = some ⟨b, 0, none⟩ ∧ w.cell? ⟨b, i, none⟩ = some (.pointer (some ⟨g, 0, none⟩)) := by
  obtain ⟨p, cap, e, h1, h2⟩ := own_form1 h.ps
  refine ⟨p, cap, e, h1, h2, fun i g hi => ?_⟩
  have hps := h.ps
  rw [e] at hps
  obtain ⟨b, rfl, -, -, -, -⟩ := own_block hps (by have := (List.getElem?_eq_some_iff.1 hi).1; omega)
  refine ⟨b, rfl, ?_⟩
  have := hps.cells (g := b) rfl i _ (pp_get hi)
  rw [Addr.add_lit, Nat.zero_add] at this
  exact this
theorem map_no_nil (w : World) (b : Nat) : (binOp .eql 180 (.map (some b)) (.map none)).run Tryz.prog w = .ok (.bool false) w := by kernel_rfl
def MS.made (m : MS) (s : Int) (b : Nat) : MS := { m with nS := m.nS + 1, S := fun k => if k = s then some b else m.S k, nF := fup m.nF b 0, F := fup m.F b (fun _ => none) }
set_option maxRecDepth 100000 in
set_option maxHeartbeats 400000 in
theorem makeG_is (h : MemG w M so fr sl m) {s : Nat} (h1 : 1 ≤ s) (h16 : s ≤ 16) (h0 : m.S s = none) (hb : ∀ j : Nat, 1 ≤ j → j < s → ∃ b, m.S j = some b) (hn : m.nS < 1000000) : Calls Tryz.prog 32 #[.pointer (some ⟨M, 0, none⟩)] w fun e w' => e = .returned (.tuple #[.int .i64 s, .int .i64 0]) ∧ MemG w' M so fr sl (m.made s w.heap.size) ∧ Upd (fun k => k = so) w w' := by
  have hmm := @run_makeMap Tryz.prog
  have m4 := h.m4
  have HH := Lib.hid h
  have HB := Lib.hid hb
  have H0 := Lib.hid (And.intro h0 hn)
  have hs16 : (s : Int) ≤ 16 := by omega
  clear h hb h0 hn
  go_enter Tryz.func32, Tryz.ntmps32
  go_wp2_with fail
  go_loop [4] (fun kv => ∃ k : Nat, 1 ≤ k ∧ k ≤ s ∧ kv = .int .i64 k) (fun kv => 17 - (intOf kv).toNat)
  case atStart => exact ⟨1, by omega, h1, rfl⟩
  case round =>
    obtain ⟨k, k1, k2, rfl⟩ := hrel
    have i0 : (k : Int) ≤ 16 := by omega
    by_cases hk : k < s
    · obtain ⟨b, hb⟩ := HB.out k k1 hk
      have l1 := HH.out.om.look (k := k) (WalkArith.wf_i64 (by omega))
      rw [hb] at l1
      change _ = Result.ok (Value.map (some b)) w at l1
      have l2 := map_no_nil w b
      clear hb
      go_wp2_with fail
      go_round
      case rel => exact ⟨k + 1, by omega, by omega, by go_num⟩
      case measure => simp [intOf]; omega
    · obtain rfl : k = s := by omega
      have l1 := HH.out.om.look (k := k) (WalkArith.wf_i64 (by omega))
      rw [H0.out.1] at l1
      change _ = Result.ok (Value.map none) w at l1
      have l2 := map_is_nil w
      have hg0 := World.grownBy_alloc w (.map #[] 0) none
      have hso : so < w.heap.size := HH.out.lt (.inr (.inl rfl))
      obtain ⟨w2, hup, om2, hg2⟩ := (HH.out.om.kept hg0 (by simp)).put (k := k) (WalkArith.wf_i64 (by omega)) (by have := H0.out.2; unfold maxLen; omega) w.heap.size
      have hup : (Instr.mapUpdate 176 (.map (some so)) (.int .i64 k) (.map (some w.heap.size))).run Tryz.prog (w.alloc (.map #[] 0)) = .ok () w2 := hup
      have HI := Lib.hid ((IMap.made w).kept hg2 (by intro e; injection e with e; omega))
      have HG := Lib.hid (show w.grownBy w2 (some so) from grown_trans (World.grownBy_alloc w (.map #[] 0) (some so)) hg2)
      have HO := Lib.hid om2
      clear om2 hg2 hg0 hso
      go_wp2_with fail
      go_ret2
      exact ⟨rfl, HH.out.born H0.out.1 (Nat.le_refl _) (Upd.grown HG.out rfl) HO.out HI.out, Upd.grown HG.out rfl⟩
end
end Go.Proofs.YtlfemcbfclallaaGreatDoor
namespace Go.Proofs.YtlfemcbfclallaaGreatDoor
open Go.RowKit Go.Maps
set_option linter.unusedVariables false
set_option linter.unusedSimpArgs false
def MS.add (m : MS) (v : Value) (g : Nat) (d : Nat → Int) : MS := { m with pv := v, pl := m.pl ++ [g], d := fup m.d g d, u := fup m.u g 1, h := fup m.h g true }
end Go.Proofs.YtlfemcbfclallaaGreatDoor
namespace Go.Proofs.YtlfemcbfclallaaGreatDoor
open Go.RowKit Go.Maps
set_option linter.unusedVariables false
set_option linter.unusedSimpArgs false
section
variable {w w' wr : World} {M so g b : Nat} {fr sl : Int} {m m' : MS} {first r : Int} {new : List Nat}
theorem encE_some (g : Nat) (r : Int) : encE (some (g, r)) = .agg #[.pointer (some ⟨g, 0, none⟩), .int .i64 r] := rfl
end
end Go.Proofs.YtlfemcbfclallaaGreatDoor
namespace Go.Proofs.YtlfemcbfclallaaGreatDoor
open Go.RowKit Go.Maps
set_option linter.unusedVariables false
set_option linter.unusedSimpArgs false
section
variable {w w' : World} {M so g b eb : Nat} {fr sl : Int} {m : MS} {pl : List Nat}
def MS.less (m : MS) (v : Value) (g i : Nat) : MS := { m with pv := v, pl := m.pl.eraseIdx i, u := fup m.u g 0 }
theorem MS.us (m : MS) (g : Nat) (x : Int) : { m with d := fup m.d g (m.d g), u := fup m.u g x, h := fup m.h g (m.h g) } = { m with u := fup m.u g x } := by
  cases m
  simp only [fup_id _ _ _ rfl]
end
end Go.Proofs.YtlfemcbfclallaaGreatDoor
namespace Go.Proofs.YtlfemcbfclallaaGreatDoor
open Go.RowKit Go.Maps
set_option linter.unusedVariables false
set_option linter.unusedSimpArgs false
theorem redE_inv' {v : Value} {y : DataW Unit × List MemPlace} (h : redE v = some y) : ∃ c, v = encE c := by
  unfold redE at h
  split at h
  · rename_i h'; exact h'
  · cases h
open Classical in
noncomputable def met (f : Int → Option (Nat × Int)) (left : Lit → Bool) (g : Nat) : Bool := decide (∃ k r, f k = some (g, r) ∧ left (.int .i64 k) = false)
theorem met_iff {f : Int → Option (Nat × Int)} {left : Lit → Bool} {g : Nat} : met f left g = true ↔ ∃ k r, f k = some (g, r) ∧ left (.int .i64 k) = false := by
  unfold met
  exact @decide_eq_true_iff _ (Classical.propDecidable _)
theorem same_int (a b : Int) : (Lit.int .i64 a).sameKey (.int .i64 b) = decide (a = b) := by simp [Lit.sameKey]
def Lone (f : Int → Option (Nat × Int)) : Prop := ∀ k k' g r r', f k = some (g, r) → f k' = some (g, r') → k = k'
theorem met_next {f : Int → Option (Nat × Int)} {left : Lit → Bool} (ha : Lone f) {x : Int} {g : Nat} {r : Int} (hx : f x = some (g, r)) (hl : left (.int .i64 x) = true) (q : Nat) : met f (fun z => left z && !z.sameKey (.int .i64 x)) q = (met f left q || decide (q = g)) := by
  by_cases e : q = g
  · subst e
    rw [decide_eq_true rfl, Bool.or_true]
    exact met_iff.2 ⟨x, r, hx, by simp [same_int]⟩
  · rw [decide_eq_false e, Bool.or_false]
    cases hm : met f left q
    · cases hm' : met f (fun z => left z && !z.sameKey (.int .i64 x)) q
      · rfl
      · obtain ⟨k, r', hk, hk2⟩ := met_iff.1 hm'
        by_cases e2 : k = x
        · subst e2; rw [hx] at hk; injection hk with hk; injection hk with hk; exact absurd hk.symm e
        · have h3 : left (.int .i64 k) = false := by simpa [same_int, e2] using hk2
          rw [met_iff.2 ⟨k, r', hk, h3⟩] at hm; cases hm
    · obtain ⟨k, r', hk, hk2⟩ := met_iff.1 hm
      exact met_iff.2 ⟨k, r', hk, by simp [hk2]⟩
noncomputable def kept (m : MS) (f : Int → Option (Nat × Int)) (left : Lit → Bool) : List Nat := m.pl.filter fun g => !met f left g
section
variable {w w' wr : World} {M so g b : Nat} {fr sl : Int} {m m' : MS} {f : Int → Option (Nat × Int)} {left : Lit → Bool}
theorem ranges_upd {S : Nat → Prop} {r n : Nat} {D : DataW Unit} {cnt : Nat} (h : w.ranges Tryz.prog 3 redE b r n D left cnt) (hu : Upd S w w') (hb : ¬ S b) (hr : ¬ S r) : w'.ranges Tryz.prog 3 redE b r n D left cnt := by
  have lt : ∀ {k o}, w.heap[k]? = some o → k < w.heap.size := fun h => (Array.getElem?_eq_some_iff.1 h).1
  obtain ⟨es, c1, c2, a, c3, h1, F, h2, h3, h4, rest⟩ := h
  exact ⟨es, c1, c2, a, c3, (hu.block b (lt h1) hb).trans h1, F, h2, h3, (hu.block r (lt h4) hr).trans h4, rest⟩
theorem OMap.del {so n : Nat} {S : Int → Option Nat} (h : OMap w so n S) {s : Int} (hs : (Lit.int .i64 s).wf = true) (ty : TypeId) : ∃ w', (Builtin.delete_ #[176, 3] ty #[.map (some so), .int .i64 s]).run Tryz.prog w = .ok (.tuple #[]) w' ∧ OMap w' so n (fun k => if k = s then none else S k) ∧ w.grownBy w' (some so) := by
  obtain ⟨D, hD, hm, hf⟩ := h
  obtain ⟨w', hr, ho, ht⟩ := hD.drop keyed3 Tryz.underlying176 (keyOf_int_mk Tryz.underlying3 hs) ty
  refine ⟨w', hr, ⟨_, ho, hm.del _, fun j => ?_⟩, ht.grown⟩
  by_cases e : j = s
  · subst e
    rw [atKey_del_same]
    simp [datO]
  · rw [atKey_del_other (lit_ne e)]
    dsimp only
    rw [if_neg e]
    exact hf j
end
end Go.Proofs.YtlfemcbfclallaaGreatDoor
