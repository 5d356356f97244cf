/- The walks of package open: free and Open. The walk of package open: Fork. Bits of numbers of 64 bits that are not negative. No program here. -/
import Derived.Test.YthioadiiedlmfaaGreatDoorOpenClose
import Derived.Laws.BitsLemmas
import Derived.Laws.Bits64
namespace Go.Proofs.YthioadiiedlmfaaGreatDoor.OpenLaw
set_option linter.unusedSimpArgs false
open Go.RowKit
set_option linter.unusedVariables false

abbrev row8 (r : Nat → Nat) : Value := .agg #[.int .i64 (r 0), .int .i64 (r 1), .int .i64 (r 2), .int .i64 (r 3), .int .i64 (r 4), .int .i64 (r 5), .int .i64 (r 6), .int .i64 (r 7)]
theorem row_at0 (r : Nat → Nat) (w : World) : (Instr.index 164 (row8 r) (.int .i64 0)).run Tryz.prog w = .ok (.int .i64 (r 0)) w := by kernel_rfl
theorem row_at1 (r : Nat → Nat) (w : World) : (Instr.index 164 (row8 r) (.int .i64 1)).run Tryz.prog w = .ok (.int .i64 (r 1)) w := by kernel_rfl
theorem row_at2 (r : Nat → Nat) (w : World) : (Instr.index 164 (row8 r) (.int .i64 2)).run Tryz.prog w = .ok (.int .i64 (r 2)) w := by kernel_rfl
theorem row_at3 (r : Nat → Nat) (w : World) : (Instr.index 164 (row8 r) (.int .i64 3)).run Tryz.prog w = .ok (.int .i64 (r 3)) w := by kernel_rfl
theorem row_at4 (r : Nat → Nat) (w : World) : (Instr.index 164 (row8 r) (.int .i64 4)).run Tryz.prog w = .ok (.int .i64 (r 4)) w := by kernel_rfl
theorem row_at5 (r : Nat → Nat) (w : World) : (Instr.index 164 (row8 r) (.int .i64 5)).run Tryz.prog w = .ok (.int .i64 (r 5)) w := by kernel_rfl
theorem row_at6 (r : Nat → Nat) (w : World) : (Instr.index 164 (row8 r) (.int .i64 6)).run Tryz.prog w = .ok (.int .i64 (r 6)) w := by kernel_rfl
theorem row_at7 (r : Nat → Nat) (w : World) : (Instr.index 164 (row8 r) (.int .i64 7)).run Tryz.prog w = .ok (.int .i64 (r 7)) w := by kernel_rfl
theorem row_at (r : Nat → Nat) (k : Nat) (hk : k < 8) (w : World) : (Instr.index 164 (row8 r) (.int .i64 k)).run Tryz.prog w = .ok (.int .i64 (r k)) w := by
  match k, hk with
  | 0, _ => exact row_at0 r w
  | 1, _ => exact row_at1 r w
  | 2, _ => exact row_at2 r w
  | 3, _ => exact row_at3 r w
  | 4, _ => exact row_at4 r w
  | 5, _ => exact row_at5 r w
  | 6, _ => exact row_at6 r w
  | 7, _ => exact row_at7 r w
  | k + 8, h => omega
def FreePost (r : Nat → Nat) (w : World) (e : Ending) (w' : World) : Prop :=
  w = w' ∧ ((∃ j, j < 8 ∧ r j = 0 ∧ (∀ i, i < j → r i ≠ 0) ∧ e = .returned (.int .i64 j)) ∨ ((∀ i, i < 8 → r i ≠ 0) ∧ e = .returned (.int .i64 (-1))))
set_option maxRecDepth 100000 in
set_option maxHeartbeats 400000 in
theorem free_is {w : World} {b p : Nat} {fs : Nat → F} {fd : Nat → Nat} (h : OTab w b fs fd) (hp : p < 17) (r : Nat → Nat) (hr : ∀ i, r i = fd (p * 8 + i)) : Calls Tryz.prog 225 #[.pointer (some ⟨b, 0, none⟩), .int .i64 p] w (FreePost r w) := by
  have d0 : w.cell? ⟨b, 192 + p * 8, none⟩ = some (.int .i64 (r 0)) := by rw [hr]; exact h.d p 0 hp (by omega)
  have d1 : w.cell? ⟨b, 192 + p * 8 + 1, none⟩ = some (.int .i64 (r 1)) := by rw [hr]; exact h.d p 1 hp (by omega)
  have d2 : w.cell? ⟨b, 192 + p * 8 + 2, none⟩ = some (.int .i64 (r 2)) := by rw [hr]; exact h.d p 2 hp (by omega)
  have d3 : w.cell? ⟨b, 192 + p * 8 + 3, none⟩ = some (.int .i64 (r 3)) := by rw [hr]; exact h.d p 3 hp (by omega)
  have d4 : w.cell? ⟨b, 192 + p * 8 + 4, none⟩ = some (.int .i64 (r 4)) := by rw [hr]; exact h.d p 4 hp (by omega)
  have d5 : w.cell? ⟨b, 192 + p * 8 + 5, none⟩ = some (.int .i64 (r 5)) := by rw [hr]; exact h.d p 5 hp (by omega)
  have d6 : w.cell? ⟨b, 192 + p * 8 + 6, none⟩ = some (.int .i64 (r 6)) := by rw [hr]; exact h.d p 6 hp (by omega)
  have d7 : w.cell? ⟨b, 192 + p * 8 + 7, none⟩ = some (.int .i64 (r 7)) := by rw [hr]; exact h.d p 7 hp (by omega)
  have hpi : (p : Int) < 17 := by omega
  clear h hr hp
  go_enter Tryz.func225, Tryz.ntmps225
  go_wp2
  go_loop [5, 6, 13] (fun u v i => ∃ k : Nat, k ≤ 8 ∧ i = .int .i64 k ∧ Hid (∀ j, j < k → r j ≠ 0)) (fun _ _ i => 8 - (intOf i).toNat)
  case atStart => exact ⟨0, by omega, rfl, fun j hj => absurd hj (by omega)⟩
  case round =>
    obtain ⟨k, hk8, rfl, HK⟩ := hrel
    by_cases hlt : k < 8
    · have hki : (k : Int) < 8 := by omega
      have hix := row_at r k hlt w
      have HX := Lib.hid hlt
      by_cases hz : r k = 0
      · have hz' : ((r k : Int) == 0) = true := by simp [hz]
        have HZ := Lib.hid hz
        clear hz
        go_wp2
        go_ret
        exact ⟨rfl, .inl ⟨k, HX.out, HZ.out, HK.out, rfl⟩⟩
      · have hz' : ((r k : Int) == 0) = false := by simp; omega
        have HZ := Lib.hid hz
        clear hz
        go_wp2
        go_round
        case rel => exact ⟨k + 1, by omega, rfl, fun j hj => by
          rcases Nat.lt_succ_iff_lt_or_eq.mp hj with q | q
          · exact HK.out j q
          · rw [q]; exact HZ.out⟩
        case measure => simp [intOf]; omega
    · obtain rfl : k = 8 := by omega
      go_wp2
      go_ret
      exact ⟨rfl, .inr ⟨HK.out, rfl⟩⟩

theorem OTab.setAll {w : World} {b k : Nat} {fs : Nat → F} {fd : Nat → Nat} (h : OTab w b fs fd) (hk : k < 32) (e : F) :
    OTab ((((((w.setCell ⟨b, k * 6, none⟩ (.int .i64 e.kind)).setCell ⟨b, k * 6 + 1, none⟩ (.int .i64 e.id)).setCell ⟨b, k * 6 + 2, none⟩ (.int .i64 e.may)).setCell ⟨b, k * 6 + 3, none⟩ (.bool e.more)).setCell ⟨b, k * 6 + 4, none⟩ (.int .i64 e.pos)).setCell ⟨b, k * 6 + 5, none⟩ (.int .i64 e.n)) b (updF fs k e) fd := by
  have s0 := h.setF hk (f := 0) (by omega) (v := .int .i64 e.kind) (e := { fs k with kind := e.kind }) rfl rfl rfl rfl rfl rfl
  have s1 := s0.setF hk (f := 1) (by omega) (v := .int .i64 e.id) (e := { fs k with kind := e.kind, id := e.id }) (by rw [updF_same]; rfl) rfl (by rw [updF_same]; rfl) (by rw [updF_same]; rfl) (by rw [updF_same]; rfl) (by rw [updF_same]; rfl)
  rw [updF_twice] at s1
  have s2 := s1.setF hk (f := 2) (by omega) (v := .int .i64 e.may) (e := { fs k with kind := e.kind, id := e.id, may := e.may }) (by rw [updF_same]; rfl) (by rw [updF_same]; rfl) rfl (by rw [updF_same]; rfl) (by rw [updF_same]; rfl) (by rw [updF_same]; rfl)
  rw [updF_twice] at s2
  have s3 := s2.setF hk (f := 3) (by omega) (v := .bool e.more) (e := { fs k with kind := e.kind, id := e.id, may := e.may, more := e.more }) (by rw [updF_same]; rfl) (by rw [updF_same]; rfl) (by rw [updF_same]; rfl) rfl (by rw [updF_same]; rfl) (by rw [updF_same]; rfl)
  rw [updF_twice] at s3
  have s4 := s3.setF hk (f := 4) (by omega) (v := .int .i64 e.pos) (e := { fs k with kind := e.kind, id := e.id, may := e.may, more := e.more, pos := e.pos }) (by rw [updF_same]; rfl) (by rw [updF_same]; rfl) (by rw [updF_same]; rfl) (by rw [updF_same]; rfl) rfl (by rw [updF_same]; rfl)
  rw [updF_twice] at s4
  have s5 := s4.setF hk (f := 5) (by omega) (v := .int .i64 e.n) (e := e) (by rw [updF_same]; rfl) (by rw [updF_same]; rfl) (by rw [updF_same]; rfl) (by rw [updF_same]; rfl) (by rw [updF_same]; rfl) rfl
  rw [updF_twice] at s5
  exact s5
theorem OTab.setD1 {w : World} {b : Nat} {fs : Nat → F} {fd : Nat → Nat} (h : OTab w b fs fd) {p j : Nat} (hp : p < 17) (hj : j < 8) {k : Nat} (hk : k < 32) : OTab (w.setCell ⟨b, 192 + p * 8 + j, none⟩ (.int .i64 ((k : Int) + 1))) b fs (updN fd (p * 8 + j) (k + 1)) := h.setD hp hj (x := k + 1) hk
def OpenPost (b p : Nat) (fs : Nat → F) (fd : Nat → Nat) (t : F) (w : World) (e : Ending) (w' : World) : Prop :=
  KB b w w' ∧ ((∃ j k, j < 8 ∧ fd (p * 8 + j) = 0 ∧ (∀ i, i < j → fd (p * 8 + i) ≠ 0) ∧ k < 32 ∧ (fs k).n = 0 ∧ (∀ i, i < k → (fs i).n ≠ 0) ∧ e = .returned (.tuple #[.int .i64 j, .int .i64 0]) ∧ OTab w' b (updF fs k t) (updN fd (p * 8 + j) (k + 1)))
    ∨ ((∀ i, i < 8 → fd (p * 8 + i) ≠ 0) ∨ (∀ i, i < 32 → (fs i).n ≠ 0)) ∧ e = .returned (.tuple #[.int .i64 0, .int .i64 6]) ∧ OTab w' b fs fd)
set_option maxRecDepth 100000 in
set_option maxHeartbeats 400000 in
theorem open_is {w : World} {b p : Nat} {fs : Nat → F} {fd : Nat → Nat} {kd id may : Int} (hk1 : 1 ≤ kd) (hk3 : kd ≤ 3) (h : OTab w b fs fd) (h1 : 1 ≤ p) (h2 : p ≤ 16) (hid : 0 ≤ id) (hm : 0 ≤ may) (hm3 : may ≤ 3) :
    Calls Tryz.prog 153 #[.pointer (some ⟨b, 0, none⟩), .int .i64 p, .agg #[.int .i64 kd, .int .i64 id, .int .i64 may, .bool false, .int .i64 0]] w (OpenPost b p fs fd ⟨kd, id, may, false, 0, 1⟩ w) := by
  have HO := Lib.hid (owner_is h1 h2)
  have HH := Lib.hid (h.alloc (.cells #[.int .i64 kd, .int .i64 id, .int .i64 may, .bool false, .int .i64 0] 160))
  have hbs := Nat.ne_of_lt h.lt
  obtain ⟨r, hr⟩ : ∃ r : Nat → Nat, ∀ i, r i = fd (p * 8 + i) := ⟨fun i => fd (p * 8 + i), fun _ => rfl⟩
  have HFR := Lib.hid (free_is HH.out (show p < 17 by omega) r hr)
  have HR := Lib.hid hr
  have HP := Lib.hid (show p < 17 by omega)
  clear h h1 h2 hr
  go_enter Tryz.func153, Tryz.ntmps153
  go_wp2_with fail
  refine (HO.out _).mono ?_
  rintro e w1 ⟨rfl, rfl⟩
  go_wp2_with fail
  refine HFR.out.mono ?_
  rintro e w1 ⟨rfl, ⟨j, hj8, hj0, hjm, rfl⟩ | ⟨hn, rfl⟩⟩
  · have HJ := Lib.hid (And.intro hj8 (And.intro hj0 hjm))
    have hji : (j : Int) < 8 := by omega
    have hpi : (p : Int) < 17 := by have := HP.out; omega
    clear hj8 hj0 hjm
    go_wp2_with fail
    go_loop [9, 48] (fun u i => ∃ k : Nat, k ≤ 32 ∧ i = .int .i64 k ∧ Hid (∀ j, j < k → (fs j).n ≠ 0)) (fun _ i => 32 - (intOf i).toNat)
    case atStart => exact ⟨0, by omega, rfl, fun j hj => absurd hj (by omega)⟩
    case round =>
      obtain ⟨k, hk, rfl, HK⟩ := hrel
      by_cases hlt : k < 32
      · have hki : (k : Int) < 32 := by omega
        have HX := Lib.hid hlt
        have c5 := HH.out.c5 k hlt
        by_cases hz : (fs k).n = 0
        · have HZ := Lib.hid hz
          have hz' : ((fs k).n == 0) = true := by simp [hz]
          have c0 := HH.out.c0 k hlt
          have c1 := HH.out.c1 k hlt
          have c2 := HH.out.c2 k hlt
          have c3 := HH.out.c3 k hlt
          have c4 := HH.out.c4 k hlt
          have d := HH.out.d p j HP.out HJ.out.1
          have zb : ∀ i, (w.alloc (.cells #[.int .i64 kd, .int .i64 id, .int .i64 may, .bool false, .int .i64 0] 160)).frozen? ⟨b, i, none⟩ = false := HH.out.fz
          clear hz hlt
          go_wp2_with fail
          go_region
          go_wp2
          go_ret2
          refine ⟨?_, .inl ⟨j, k, HJ.out.1, by rw [← HR.out]; exact HJ.out.2.1, fun i hi => by rw [← HR.out]; exact HJ.out.2.2 i hi, HX.out, HZ.out, HK.out, rfl, ?_⟩⟩
          · exact (((((((KB.rfl' b w).alloc _).setc _ _).setc _ _).setc _ _).setc _ _).setc _ _).setc _ _ |>.setc _ _ |>.drew
          · exact ((HH.out.setAll HX.out ⟨kd, id, may, false, 0, 1⟩).setD1 HP.out HJ.out.1 HX.out).drew
        · have hz' : ((fs k).n == 0) = false := by simp [hz]
          have HZ := Lib.hid hz
          clear hz
          go_wp2
          go_round
          case rel => exact ⟨k + 1, by omega, rfl, fun j hj => by
            rcases Nat.lt_succ_iff_lt_or_eq.mp hj with q | q
            · exact HK.out j q
            · rw [q]; exact HZ.out⟩
          case measure => simp [intOf]; omega
      · obtain rfl : k = 32 := by omega
        go_wp2
        go_ret2
        exact ⟨KB.alloc (KB.rfl' _ _) _, .inr ⟨.inr HK.out, rfl, HH.out⟩⟩
  · go_wp2
    go_ret2
    exact ⟨KB.alloc (KB.rfl' _ _) _, .inr ⟨.inl (fun i hi => by rw [← HR.out i]; exact hn i hi), rfl, HH.out⟩⟩
end Go.Proofs.YthioadiiedlmfaaGreatDoor.OpenLaw
namespace Go.Proofs.YthioadiiedlmfaaGreatDoor.OpenLaw
set_option linter.unusedSimpArgs false
open Go.RowKit
set_option linter.unusedVariables false

def cpD (fd : Nat → Nat) (p c : Nat) : Nat → Nat → Nat
  | 0 => fd
  | n + 1 => updN (cpD fd p c n) (c * 8 + n) (fd (p * 8 + n))
theorem cpD_at (fd : Nat → Nat) (p c n q : Nat) : cpD fd p c n q = if c * 8 ≤ q ∧ q < c * 8 + n then fd (p * 8 + (q - c * 8)) else fd q := by
  induction n with
  | zero => rw [cpD, if_neg (by omega)]
  | succ n ih =>
    rw [cpD, updN]
    by_cases e : q = c * 8 + n
    · rw [if_pos e, if_pos (by omega), e]
      congr 1
      omega
    · rw [if_neg e, ih]
      by_cases e2 : c * 8 ≤ q ∧ q < c * 8 + n
      · rw [if_pos e2, if_pos (by omega)]
      · rw [if_neg e2, if_neg (by omega)]
def fkF (fs : Nat → F) (r : Nat → Nat) : Nat → Nat → F
  | 0 => fs
  | n + 1 => if r n = 0 then fkF fs r n else updF (fkF fs r n) (r n - 1) { fkF fs r n (r n - 1) with n := (fkF fs r n (r n - 1)).n + 1 }
theorem fkF_le (fs : Nat → F) (r : Nat → Nat) (n k : Nat) : (fs k).n ≤ (fkF fs r n k).n ∧ (fkF fs r n k).n ≤ (fs k).n + n := by
  induction n with
  | zero => exact ⟨Int.le_refl _, by simp [fkF]⟩
  | succ n ih =>
    rw [fkF]
    split
    · omega
    · by_cases e : k = r n - 1
      · rw [← e, updF_same]
        show (fs k).n ≤ (fkF fs r n k).n + 1 ∧ (fkF fs r n k).n + 1 ≤ _
        omega
      · rw [updF_other _ _ e]
        omega
theorem OTab.setRow {w : World} {b p c : Nat} {fs : Nat → F} {fd : Nat → Nat} (h : OTab w b fs fd) (hc : c < 17) (r : Nat → Nat) (hr : ∀ i, r i = fd (p * 8 + i)) :
    OTab ((((((((w.setCell ⟨b, 192 + c * 8, none⟩ (.int .i64 (r 0))).setCell ⟨b, 192 + c * 8 + 1, none⟩ (.int .i64 (r 1))).setCell ⟨b, 192 + c * 8 + 2, none⟩ (.int .i64 (r 2))).setCell ⟨b, 192 + c * 8 + 3, none⟩ (.int .i64 (r 3))).setCell ⟨b, 192 + c * 8 + 4, none⟩ (.int .i64 (r 4))).setCell ⟨b, 192 + c * 8 + 5, none⟩ (.int .i64 (r 5))).setCell ⟨b, 192 + c * 8 + 6, none⟩ (.int .i64 (r 6))).setCell ⟨b, 192 + c * 8 + 7, none⟩ (.int .i64 (r 7))) b fs (cpD fd p c 8) := by
  have L := h.le
  rw [hr, hr, hr, hr, hr, hr, hr, hr]
  have s0 : OTab (w.setCell ⟨b, 192 + c * 8, none⟩ (.int .i64 (fd (p * 8 + 0)))) b fs (cpD fd p c 1) := h.setD hc (j := 0) (by omega) (x := fd (p * 8 + 0)) (L _)
  have s1 : OTab _ b fs (cpD fd p c 2) := s0.setD hc (j := 1) (by omega) (x := fd (p * 8 + 1)) (L _)
  have s2 : OTab _ b fs (cpD fd p c 3) := s1.setD hc (j := 2) (by omega) (x := fd (p * 8 + 2)) (L _)
  have s3 : OTab _ b fs (cpD fd p c 4) := s2.setD hc (j := 3) (by omega) (x := fd (p * 8 + 3)) (L _)
  have s4 : OTab _ b fs (cpD fd p c 5) := s3.setD hc (j := 4) (by omega) (x := fd (p * 8 + 4)) (L _)
  have s5 : OTab _ b fs (cpD fd p c 6) := s4.setD hc (j := 5) (by omega) (x := fd (p * 8 + 5)) (L _)
  have s6 : OTab _ b fs (cpD fd p c 7) := s5.setD hc (j := 6) (by omega) (x := fd (p * 8 + 6)) (L _)
  have s7 : OTab _ b fs (cpD fd p c 8) := s6.setD hc (j := 7) (by omega) (x := fd (p * 8 + 7)) (L _)
  exact s7
theorem fork_args {p c : Nat} : True := trivial
set_option maxRecDepth 100000 in
set_option maxHeartbeats 400000 in
theorem fork_busy {w : World} {b p c : Nat} {fs : Nat → F} {fd : Nat → Nat} (h : OTab w b fs fd) (h1 : 1 ≤ p) (h2 : p ≤ 16) (h3 : 1 ≤ c) (h4 : c ≤ 16) (hb : ∃ i, i < 8 ∧ fd (c * 8 + i) ≠ 0) : Calls Tryz.prog 176 #[.pointer (some ⟨b, 0, none⟩), .int .i64 p, .int .i64 c] w fun e w' => e = .returned (.int .i64 8) ∧ w = w' := by
  have HO := Lib.hid (owner_is h1 h2)
  have HO2 := Lib.hid (owner_is h3 h4)
  obtain ⟨rc, hrc⟩ : ∃ r : Nat → Nat, ∀ i, r i = fd (c * 8 + i) := ⟨fun i => fd (c * 8 + i), fun _ => rfl⟩
  have rcd0 : w.cell? ⟨b, 192 + c * 8, none⟩ = some (.int .i64 (rc 0)) := by rw [hrc 0]; exact h.d c 0 (by omega) (by omega)
  have rcd1 : w.cell? ⟨b, 192 + c * 8 + 1, none⟩ = some (.int .i64 (rc 1)) := by rw [hrc 1]; exact h.d c 1 (by omega) (by omega)
  have rcd2 : w.cell? ⟨b, 192 + c * 8 + 2, none⟩ = some (.int .i64 (rc 2)) := by rw [hrc 2]; exact h.d c 2 (by omega) (by omega)
  have rcd3 : w.cell? ⟨b, 192 + c * 8 + 3, none⟩ = some (.int .i64 (rc 3)) := by rw [hrc 3]; exact h.d c 3 (by omega) (by omega)
  have rcd4 : w.cell? ⟨b, 192 + c * 8 + 4, none⟩ = some (.int .i64 (rc 4)) := by rw [hrc 4]; exact h.d c 4 (by omega) (by omega)
  have rcd5 : w.cell? ⟨b, 192 + c * 8 + 5, none⟩ = some (.int .i64 (rc 5)) := by rw [hrc 5]; exact h.d c 5 (by omega) (by omega)
  have rcd6 : w.cell? ⟨b, 192 + c * 8 + 6, none⟩ = some (.int .i64 (rc 6)) := by rw [hrc 6]; exact h.d c 6 (by omega) (by omega)
  have rcd7 : w.cell? ⟨b, 192 + c * 8 + 7, none⟩ = some (.int .i64 (rc 7)) := by rw [hrc 7]; exact h.d c 7 (by omega) (by omega)
  have hpi : (p : Int) < 17 := by omega
  have hci : (c : Int) < 17 := by omega
  have HH := Lib.hid h
  have HP := Lib.hid (show p < 17 by omega)
  have HC := Lib.hid (show c < 17 by omega)
  have HB := Lib.hid (show ∃ i, i < 8 ∧ rc i ≠ 0 from by obtain ⟨i, a, x⟩ := hb; exact ⟨i, a, by rw [hrc]; exact x⟩)
  clear h h1 h2 h3 h4 hb hrc
  go_enter Tryz.func176, Tryz.ntmps176
  go_wp2_with fail
  refine (HO.out _).mono ?_
  rintro e w1 ⟨rfl, rfl⟩
  go_wp2_with fail
  refine (HO2.out _).mono ?_
  rintro e w1 ⟨rfl, rfl⟩
  go_wp2_with fail
  go_loop [8, 25] (fun u i => ∃ k : Nat, k ≤ 8 ∧ i = .int .i64 k ∧ Hid (∀ j, j < k → rc j = 0)) (fun _ i => 8 - (intOf i).toNat)
  case atStart => exact ⟨0, by omega, rfl, fun j hj => absurd hj (by omega)⟩
  case round =>
    obtain ⟨k, hk8, rfl, HK⟩ := hrel
    have hlt : k < 8 := by
      obtain ⟨i, a, x⟩ := HB.out
      rcases Nat.lt_or_ge i k with q | q
      · exact absurd (HK.out i q) x
      · omega
    have hki : (k : Int) < 8 := by omega
    have hix := row_at rc k hlt w
    by_cases hz : rc k = 0
    · have hz' : ((rc k : Int) != 0) = false := by simp [hz]
      have HZ := Lib.hid hz
      clear hz
      go_wp2
      go_round
      case rel => exact ⟨k + 1, by omega, rfl, fun j hj => by
        rcases Nat.lt_succ_iff_lt_or_eq.mp hj with q | q
        · exact HK.out j q
        · rw [q]; exact HZ.out⟩
      case measure => simp [intOf]; omega
    · have hz' : ((rc k : Int) != 0) = true := by simp; omega
      clear hz
      go_wp2
      go_ret
      exact ⟨rfl, rfl⟩
set_option maxRecDepth 100000 in
set_option maxHeartbeats 400000 in
theorem fork_same {w : World} {b p : Nat} {fs : Nat → F} {fd : Nat → Nat} (h : OTab w b fs fd) (h1 : 1 ≤ p) (h2 : p ≤ 16) (hb : ∀ i, i < 8 → fd (p * 8 + i) = 0) : Calls Tryz.prog 176 #[.pointer (some ⟨b, 0, none⟩), .int .i64 p, .int .i64 p] w fun e w' => e = .returned (.int .i64 0) ∧ w = w' := by
  obtain ⟨c, hc⟩ : ∃ c, c = p := ⟨p, rfl⟩
  have h3 := h1
  have h4 := h2
  have HO := Lib.hid (owner_is h1 h2)
  have HO2 := Lib.hid (owner_is h3 h4)
  obtain ⟨rc, hrc⟩ : ∃ r : Nat → Nat, ∀ i, r i = fd (p * 8 + i) := ⟨fun i => fd (p * 8 + i), fun _ => rfl⟩
  have rcd0 : w.cell? ⟨b, 192 + p * 8, none⟩ = some (.int .i64 (rc 0)) := by rw [hrc 0]; exact h.d p 0 (by omega) (by omega)
  have rcd1 : w.cell? ⟨b, 192 + p * 8 + 1, none⟩ = some (.int .i64 (rc 1)) := by rw [hrc 1]; exact h.d p 1 (by omega) (by omega)
  have rcd2 : w.cell? ⟨b, 192 + p * 8 + 2, none⟩ = some (.int .i64 (rc 2)) := by rw [hrc 2]; exact h.d p 2 (by omega) (by omega)
  have rcd3 : w.cell? ⟨b, 192 + p * 8 + 3, none⟩ = some (.int .i64 (rc 3)) := by rw [hrc 3]; exact h.d p 3 (by omega) (by omega)
  have rcd4 : w.cell? ⟨b, 192 + p * 8 + 4, none⟩ = some (.int .i64 (rc 4)) := by rw [hrc 4]; exact h.d p 4 (by omega) (by omega)
  have rcd5 : w.cell? ⟨b, 192 + p * 8 + 5, none⟩ = some (.int .i64 (rc 5)) := by rw [hrc 5]; exact h.d p 5 (by omega) (by omega)
  have rcd6 : w.cell? ⟨b, 192 + p * 8 + 6, none⟩ = some (.int .i64 (rc 6)) := by rw [hrc 6]; exact h.d p 6 (by omega) (by omega)
  have rcd7 : w.cell? ⟨b, 192 + p * 8 + 7, none⟩ = some (.int .i64 (rc 7)) := by rw [hrc 7]; exact h.d p 7 (by omega) (by omega)
  have hpi : (p : Int) < 17 := by omega
  have hci : (p : Int) < 17 := by omega
  have HH := Lib.hid h
  have HP := Lib.hid (show p < 17 by omega)
  have HC := Lib.hid (show p < 17 by omega)
  have HZR := Lib.hid (show ∀ i, i < 8 → rc i = 0 from fun i hi => by rw [hrc]; exact hb i hi)
  clear h h1 h2 h3 h4 hb hrc hc
  go_enter Tryz.func176, Tryz.ntmps176
  go_wp2_with fail
  refine (HO.out _).mono ?_
  rintro e w1 ⟨rfl, rfl⟩
  go_wp2_with fail
  refine (HO2.out _).mono ?_
  rintro e w1 ⟨rfl, rfl⟩
  go_wp2_with fail
  go_loop [8, 25] (fun u i => ∃ k : Nat, k ≤ 8 ∧ i = .int .i64 k) (fun _ i => 8 - (intOf i).toNat)
  case atStart => exact ⟨0, by omega, rfl⟩
  case round =>
    obtain ⟨k, hk8, rfl⟩ := hrel
    by_cases hlt : k < 8
    · have hki : (k : Int) < 8 := by omega
      have hix := row_at rc k hlt w
      have hz' : ((rc k : Int) != 0) = false := by simp [HZR.out k hlt]
      go_wp2
      go_round
      case rel => exact ⟨k + 1, by omega, rfl⟩
      case measure => simp [intOf]; omega
    · obtain rfl : k = 8 := by omega
      go_wp2
      go_ret
      exact ⟨rfl, rfl⟩
set_option maxRecDepth 100000 in
set_option maxHeartbeats 400000 in
theorem fork_is {w : World} {b p c : Nat} {fs : Nat → F} {fd : Nat → Nat} (h : OTab w b fs fd) (h1 : 1 ≤ p) (h2 : p ≤ 16) (h3 : 1 ≤ c) (h4 : c ≤ 16) (hpc : p ≠ c) (hb : ∀ i, i < 8 → fd (c * 8 + i) = 0) (hn : ∀ k, k < 32 → 0 ≤ (fs k).n ∧ (fs k).n ≤ 200) :
    Calls Tryz.prog 176 #[.pointer (some ⟨b, 0, none⟩), .int .i64 p, .int .i64 c] w fun e w' => e = .returned (.int .i64 0) ∧ KB b w w' ∧ OTab w' b (fkF fs (fun i => fd (p * 8 + i)) 8) (cpD fd p c 8) := by
  have HO := Lib.hid (owner_is h1 h2)
  have HO2 := Lib.hid (owner_is h3 h4)
  obtain ⟨rc, hrc⟩ : ∃ r : Nat → Nat, ∀ i, r i = fd (c * 8 + i) := ⟨fun i => fd (c * 8 + i), fun _ => rfl⟩
  have rcd0 : w.cell? ⟨b, 192 + c * 8, none⟩ = some (.int .i64 (rc 0)) := by rw [hrc 0]; exact h.d c 0 (by omega) (by omega)
  have rcd1 : w.cell? ⟨b, 192 + c * 8 + 1, none⟩ = some (.int .i64 (rc 1)) := by rw [hrc 1]; exact h.d c 1 (by omega) (by omega)
  have rcd2 : w.cell? ⟨b, 192 + c * 8 + 2, none⟩ = some (.int .i64 (rc 2)) := by rw [hrc 2]; exact h.d c 2 (by omega) (by omega)
  have rcd3 : w.cell? ⟨b, 192 + c * 8 + 3, none⟩ = some (.int .i64 (rc 3)) := by rw [hrc 3]; exact h.d c 3 (by omega) (by omega)
  have rcd4 : w.cell? ⟨b, 192 + c * 8 + 4, none⟩ = some (.int .i64 (rc 4)) := by rw [hrc 4]; exact h.d c 4 (by omega) (by omega)
  have rcd5 : w.cell? ⟨b, 192 + c * 8 + 5, none⟩ = some (.int .i64 (rc 5)) := by rw [hrc 5]; exact h.d c 5 (by omega) (by omega)
  have rcd6 : w.cell? ⟨b, 192 + c * 8 + 6, none⟩ = some (.int .i64 (rc 6)) := by rw [hrc 6]; exact h.d c 6 (by omega) (by omega)
  have rcd7 : w.cell? ⟨b, 192 + c * 8 + 7, none⟩ = some (.int .i64 (rc 7)) := by rw [hrc 7]; exact h.d c 7 (by omega) (by omega)
  have hpi : (p : Int) < 17 := by omega
  have hci : (c : Int) < 17 := by omega
  have HH := Lib.hid h
  have HP := Lib.hid (show p < 17 by omega)
  have HC := Lib.hid (show c < 17 by omega)
  have HZR := Lib.hid (show ∀ i, i < 8 → rc i = 0 from fun i hi => by rw [hrc]; exact hb i hi)
  obtain ⟨rp, hrp⟩ : ∃ r : Nat → Nat, r = fun i => fd (p * 8 + i) := ⟨_, rfl⟩
  rw [← hrp]
  replace hrp : ∀ i, rp i = fd (p * 8 + i) := fun i => by rw [hrp]
  have rpd0 : w.cell? ⟨b, 192 + p * 8, none⟩ = some (.int .i64 (rp 0)) := by rw [hrp 0]; exact h.d p 0 (by omega) (by omega)
  have rpd1 : w.cell? ⟨b, 192 + p * 8 + 1, none⟩ = some (.int .i64 (rp 1)) := by rw [hrp 1]; exact h.d p 1 (by omega) (by omega)
  have rpd2 : w.cell? ⟨b, 192 + p * 8 + 2, none⟩ = some (.int .i64 (rp 2)) := by rw [hrp 2]; exact h.d p 2 (by omega) (by omega)
  have rpd3 : w.cell? ⟨b, 192 + p * 8 + 3, none⟩ = some (.int .i64 (rp 3)) := by rw [hrp 3]; exact h.d p 3 (by omega) (by omega)
  have rpd4 : w.cell? ⟨b, 192 + p * 8 + 4, none⟩ = some (.int .i64 (rp 4)) := by rw [hrp 4]; exact h.d p 4 (by omega) (by omega)
  have rpd5 : w.cell? ⟨b, 192 + p * 8 + 5, none⟩ = some (.int .i64 (rp 5)) := by rw [hrp 5]; exact h.d p 5 (by omega) (by omega)
  have rpd6 : w.cell? ⟨b, 192 + p * 8 + 6, none⟩ = some (.int .i64 (rp 6)) := by rw [hrp 6]; exact h.d p 6 (by omega) (by omega)
  have rpd7 : w.cell? ⟨b, 192 + p * 8 + 7, none⟩ = some (.int .i64 (rp 7)) := by rw [hrp 7]; exact h.d p 7 (by omega) (by omega)
  have zb : ∀ i, w.frozen? ⟨b, i, none⟩ = false := h.fz
  have HN := Lib.hid hn
  have HRP := Lib.hid hrp
  have HPC := Lib.hid hpc
  have hpc' : ((p : Int) == (c : Int)) = false := by simp; omega
  clear h h1 h2 h3 h4 hb hrc hn hrp hpc
  go_enter Tryz.func176, Tryz.ntmps176
  go_wp2_with fail
  refine (HO.out _).mono ?_
  rintro e w1 ⟨rfl, rfl⟩
  go_wp2_with fail
  refine (HO2.out _).mono ?_
  rintro e w1 ⟨rfl, rfl⟩
  go_wp2_with fail
  go_loop [8, 25] (fun u i => ∃ k : Nat, k ≤ 8 ∧ i = .int .i64 k) (fun _ i => 8 - (intOf i).toNat)
  case atStart => exact ⟨0, by omega, rfl⟩
  case round =>
    obtain ⟨k, hk8, rfl⟩ := hrel
    by_cases hlt : k < 8
    · have hki : (k : Int) < 8 := by omega
      have hix := row_at rc k hlt w
      have hz' : ((rc k : Int) != 0) = false := by simp [HZR.out k hlt]
      go_wp2
      go_round
      case rel => exact ⟨k + 1, by omega, rfl⟩
      case measure => simp [intOf]; omega
    · obtain rfl : k = 8 := by omega
      go_wp2_with fail
      go_region
      have HT := Lib.hid (HH.out.setRow HC.out rp HRP.out).drew
      have HK := Lib.hid ((((((((((KB.rfl' b w).setc (192 + c * 8) (.int .i64 (rp 0))).setc (192 + c * 8 + 1) (.int .i64 (rp 1))).setc (192 + c * 8 + 2) (.int .i64 (rp 2))).setc (192 + c * 8 + 3) (.int .i64 (rp 3))).setc (192 + c * 8 + 4) (.int .i64 (rp 4))).setc (192 + c * 8 + 5) (.int .i64 (rp 5))).setc (192 + c * 8 + 6) (.int .i64 (rp 6))).setc (192 + c * 8 + 7) (.int .i64 (rp 7))).drew)
      clear zb rcd0 rcd1 rcd2 rcd3 rcd4 rcd5 rcd6 rcd7 rpd0 rpd1 rpd2 rpd3 rpd4 rpd5 rpd6 rpd7
      revert HT HK
      generalize hw2 : World.drew _ = w2
      intro HT HK
      clear hw2
      have hre : ∀ i, i < 8 → rp i = cpD fd p c 8 (p * 8 + i) := fun i hi => by rw [cpD_at, if_neg (by have := HPC.out; omega), HRP.out]
      have red0 : w2.cell? ⟨b, 192 + p * 8, none⟩ = some (.int .i64 (rp 0)) := by rw [hre 0 (by omega)]; exact HT.out.d p 0 HP.out (by omega)
      have red1 : w2.cell? ⟨b, 192 + p * 8 + 1, none⟩ = some (.int .i64 (rp 1)) := by rw [hre 1 (by omega)]; exact HT.out.d p 1 HP.out (by omega)
      have red2 : w2.cell? ⟨b, 192 + p * 8 + 2, none⟩ = some (.int .i64 (rp 2)) := by rw [hre 2 (by omega)]; exact HT.out.d p 2 HP.out (by omega)
      have red3 : w2.cell? ⟨b, 192 + p * 8 + 3, none⟩ = some (.int .i64 (rp 3)) := by rw [hre 3 (by omega)]; exact HT.out.d p 3 HP.out (by omega)
      have red4 : w2.cell? ⟨b, 192 + p * 8 + 4, none⟩ = some (.int .i64 (rp 4)) := by rw [hre 4 (by omega)]; exact HT.out.d p 4 HP.out (by omega)
      have red5 : w2.cell? ⟨b, 192 + p * 8 + 5, none⟩ = some (.int .i64 (rp 5)) := by rw [hre 5 (by omega)]; exact HT.out.d p 5 HP.out (by omega)
      have red6 : w2.cell? ⟨b, 192 + p * 8 + 6, none⟩ = some (.int .i64 (rp 6)) := by rw [hre 6 (by omega)]; exact HT.out.d p 6 HP.out (by omega)
      have red7 : w2.cell? ⟨b, 192 + p * 8 + 7, none⟩ = some (.int .i64 (rp 7)) := by rw [hre 7 (by omega)]; exact HT.out.d p 7 HP.out (by omega)
      clear hre
      go_wp2_with fail
      clear red0 red1 red2 red3 red4 red5 red6 red7
      have HLE := Lib.hid (fun i => HH.out.le (p * 8 + i))
      go_loopw [10, 51] (fun u i wr => ∃ k : Nat, k ≤ 8 ∧ i = .int .i64 k ∧ Hid (KB b w wr) ∧ Hid (OTab wr b (fkF fs rp k) (cpD fd p c 8))) (fun _ i _ => 8 - (intOf i).toNat)
      case atStart => exact ⟨0, by omega, rfl, HK, HT⟩
      case round =>
        obtain ⟨k, hk8, rfl, HK1, HT1⟩ := hrel
        by_cases hlt : k < 8
        · have hki : (k : Int) < 8 := by omega
          have hix := row_at rp k hlt wr
          by_cases hz : rp k = 0
          · have hz' : ((rp k : Int) != 0) = false := by simp [hz]
            have HZ := Lib.hid hz
            clear hz
            go_wp2
            go_roundw
            case rel => exact ⟨k + 1, by omega, rfl, HK1, by have := HT1.out; rw [fkF, if_pos HZ.out]; exact this⟩
            case measure => simp [intOf]; omega
          · obtain ⟨q, hq⟩ : ∃ q, rp k = q + 1 := ⟨rp k - 1, by omega⟩
            have hq32 : q < 32 := by have := HLE.out k; rw [← HRP.out] at this; omega
            have HQ := Lib.hid hq32
            have HQQ := Lib.hid hq
            rw [hq, show ((q + 1 : Nat) : Int) = (q : Int) + 1 from rfl] at hix
            have hqi : (q : Int) < 32 := by omega
            have hz' : ((q : Int) + 1 != 0) = true := by simp; omega
            have c5 := HT1.out.c5 q hq32
            have zb : ∀ i, wr.frozen? ⟨b, i, none⟩ = false := HT1.out.fz
            have hb1 := (fkF_le fs rp k q)
            have hb2 := HN.out q hq32
            have hb3 : 0 ≤ (fkF fs rp k q).n ∧ (fkF fs rp k q).n ≤ 300 := by omega
            clear hb1 hb2 hz hq hq32
            go_wp2_with fail
            go_region
            go_wp2
            go_roundw
            case rel => exact ⟨k + 1, by omega, rfl, Lib.hid (HK1.out.setc _ _).drew, Lib.hid (by
              have e : fkF fs rp (k + 1) = updF (fkF fs rp k) q { fkF fs rp k q with n := (fkF fs rp k q).n + 1 } := by
                rw [fkF, if_neg (by rw [HQQ.out]; omega), HQQ.out]; rfl
              rw [e]
              exact (HT1.out.setN HQ.out _).drew)⟩
            case measure => simp [intOf]; omega
        · obtain rfl : k = 8 := by omega
          go_wp2
          go_ret
          exact ⟨rfl, HK1.out, HT1.out⟩
end Go.Proofs.YthioadiiedlmfaaGreatDoor.OpenLaw
namespace Go.Proofs.YthioadiiedlmfaaGreatDoor
set_option linter.unusedSimpArgs false
set_option linter.unusedVariables false

theorem wraps_i64 (n : Int) (h₀ : 0 ≤ n) (h₁ : n < 2 ^ 63) : IntKind.i64.wrap n = n := by rw [IntKind.wrap_i64]; omega

theorem i64_and (a b : Nat) (ha : a < 2 ^ 63) (hb : b < 2 ^ 63) : bits .and .i64 (a : Int) (b : Int) = ((a &&& b : Nat) : Int) :=
  (bits_nat .i64 63 (by decide) wraps_i64 a b ha hb).1
theorem i64_or (a b : Nat) (ha : a < 2 ^ 63) (hb : b < 2 ^ 63) : bits .or .i64 (a : Int) (b : Int) = ((a ||| b : Nat) : Int) :=
  (bits_nat .i64 63 (by decide) wraps_i64 a b ha hb).2

/-- a without the bits of b -/
def less (a b : Nat) : Nat := a ^^^ (a &&& b)
theorem less_bit (a b i : Nat) : (less a b).testBit i = (a.testBit i && !b.testBit i) := by
  simp [less]; cases a.testBit i <;> cases b.testBit i <;> rfl
theorem less_le (a b : Nat) : less a b ≤ a := by
  have h : less a b &&& a = less a b := by
    apply Nat.eq_of_testBit_eq; intro i
    rw [Nat.testBit_and, less_bit]; cases a.testBit i <;> cases b.testBit i <;> rfl
  rw [← h]; exact Nat.and_le_right
theorem i64_andNot (a b : Nat) (ha : a < 2 ^ 63) (_hb : b < 2 ^ 63) : bits .andNot .i64 (a : Int) (b : Int) = ((less a b : Nat) : Int) := by
  have hle := less_le a b
  have e : (BitVec.ofInt 64 (a : Int) &&& ~~~BitVec.ofInt 64 (b : Int)).toNat = less a b := by
    apply Nat.eq_of_testBit_eq
    intro i
    rw [less_bit, BitVec.testBit_toNat, BitVec.getLsbD_and, BitVec.getLsbD_not, BitVec.ofInt_natCast, BitVec.ofInt_natCast, BitVec.getLsbD_ofNat, BitVec.getLsbD_ofNat]
    by_cases hi : i < 64
    · simp [hi]
    · have : a.testBit i = false := Nat.testBit_lt_two_pow (Nat.lt_of_lt_of_le ha (Nat.pow_le_pow_right (by decide) (by omega)))
      simp [hi, this]
  show IntKind.i64.wrap ((BitVec.ofInt 64 (a : Int) &&& ~~~BitVec.ofInt 64 (b : Int)).toNat : Int) = _
  rw [e]
  exact wraps_i64 _ (Int.natCast_nonneg _) (by have : less a b < 2 ^ 63 := Nat.lt_of_le_of_lt hle ha; exact_mod_cast this)

theorem less_zero (a b : Nat) : less a b = 0 ↔ ∀ i, a.testBit i = true → b.testBit i = true := by
  constructor
  · intro h i ha
    have := less_bit a b i
    rw [h, ha] at this
    simpa using this.symm
  · intro h
    apply Nat.eq_of_testBit_eq
    intro i
    rw [less_bit, Nat.zero_testBit]
    cases ha : a.testBit i
    · rfl
    · rw [h i ha]; rfl
theorem or_lt (a b n : Nat) (ha : a < 2 ^ n) (hb : b < 2 ^ n) : a ||| b < 2 ^ n := Nat.or_lt_two_pow ha hb
theorem and_lt (a b n : Nat) (hb : b < 2 ^ n) : a &&& b < 2 ^ n := Nat.and_lt_two_pow _ hb
end Go.Proofs.YthioadiiedlmfaaGreatDoor
