/- The walks of package open: free and Open. -/
import Derived.Test.YtdkbmkapnapahaaGreatDoorOpenClose
namespace Go.Proofs.YtdkbmkapnapahaaGreatDoor.OpenLaw
set_option linter.unusedSimpArgs false
open Go.RowKit
set_option linter.unusedVariables false

abbrev row8 (r : Nat → Nat) : Value := .agg #[.int .i64 (r 0), .int .i64 (r 1), .int .i64 (r 2), .int .i64 (r 3), .int .i64 (r 4), .int .i64 (r 5), .int .i64 (r 6), .int .i64 (r 7)]
theorem row_at0 (r : Nat → Nat) (w : World) : (Instr.index 181 (row8 r) (.int .i64 0)).run Tryz.prog w = .ok (.int .i64 (r 0)) w := by kernel_rfl
theorem row_at1 (r : Nat → Nat) (w : World) : (Instr.index 181 (row8 r) (.int .i64 1)).run Tryz.prog w = .ok (.int .i64 (r 1)) w := by kernel_rfl
theorem row_at2 (r : Nat → Nat) (w : World) : (Instr.index 181 (row8 r) (.int .i64 2)).run Tryz.prog w = .ok (.int .i64 (r 2)) w := by kernel_rfl
theorem row_at3 (r : Nat → Nat) (w : World) : (Instr.index 181 (row8 r) (.int .i64 3)).run Tryz.prog w = .ok (.int .i64 (r 3)) w := by kernel_rfl
theorem row_at4 (r : Nat → Nat) (w : World) : (Instr.index 181 (row8 r) (.int .i64 4)).run Tryz.prog w = .ok (.int .i64 (r 4)) w := by kernel_rfl
theorem row_at5 (r : Nat → Nat) (w : World) : (Instr.index 181 (row8 r) (.int .i64 5)).run Tryz.prog w = .ok (.int .i64 (r 5)) w := by kernel_rfl
theorem row_at6 (r : Nat → Nat) (w : World) : (Instr.index 181 (row8 r) (.int .i64 6)).run Tryz.prog w = .ok (.int .i64 (r 6)) w := by kernel_rfl
theorem row_at7 (r : Nat → Nat) (w : World) : (Instr.index 181 (row8 r) (.int .i64 7)).run Tryz.prog w = .ok (.int .i64 (r 7)) w := by kernel_rfl
theorem row_at (r : Nat → Nat) (k : Nat) (hk : k < 8) (w : World) : (Instr.index 181 (row8 r) (.int .i64 k)).run Tryz.prog w = .ok (.int .i64 (r k)) w := by
  match k, hk with
  | 0, _ => exact row_at0 r w
  | 1, _ => exact row_at1 r w
  | 2, _ => exact row_at2 r w
  | 3, _ => exact row_at3 r w
  | 4, _ => exact row_at4 r w
  | 5, _ => exact row_at5 r w
  | 6, _ => exact row_at6 r w
  | 7, _ => exact row_at7 r w
  | k + 8, h => omega
def FreePost (r : Nat → Nat) (w : World) (e : Ending) (w' : World) : Prop :=
  w = w' ∧ ((∃ j, j < 8 ∧ r j = 0 ∧ (∀ i, i < j → r i ≠ 0) ∧ e = .returned (.int .i64 j)) ∨ ((∀ i, i < 8 → r i ≠ 0) ∧ e = .returned (.int .i64 (-1))))
set_option maxRecDepth 100000 in
set_option maxHeartbeats 400000 in
theorem free_is {w : World} {b p : Nat} {fs : Nat → F} {fd : Nat → Nat} (h : OTab w b fs fd) (hp : p < 17) (r : Nat → Nat) (hr : ∀ i, r i = fd (p * 8 + i)) : Calls Tryz.prog 231 #[.pointer (some ⟨b, 0, none⟩), .int .i64 p] w (FreePost r w) := by
  have d0 : w.cell? ⟨b, 192 + p * 8, none⟩ = some (.int .i64 (r 0)) := by rw [hr]; exact h.d p 0 hp (by omega)
  have d1 : w.cell? ⟨b, 192 + p * 8 + 1, none⟩ = some (.int .i64 (r 1)) := by rw [hr]; exact h.d p 1 hp (by omega)
  have d2 : w.cell? ⟨b, 192 + p * 8 + 2, none⟩ = some (.int .i64 (r 2)) := by rw [hr]; exact h.d p 2 hp (by omega)
  have d3 : w.cell? ⟨b, 192 + p * 8 + 3, none⟩ = some (.int .i64 (r 3)) := by rw [hr]; exact h.d p 3 hp (by omega)
  have d4 : w.cell? ⟨b, 192 + p * 8 + 4, none⟩ = some (.int .i64 (r 4)) := by rw [hr]; exact h.d p 4 hp (by omega)
  have d5 : w.cell? ⟨b, 192 + p * 8 + 5, none⟩ = some (.int .i64 (r 5)) := by rw [hr]; exact h.d p 5 hp (by omega)
  have d6 : w.cell? ⟨b, 192 + p * 8 + 6, none⟩ = some (.int .i64 (r 6)) := by rw [hr]; exact h.d p 6 hp (by omega)
  have d7 : w.cell? ⟨b, 192 + p * 8 + 7, none⟩ = some (.int .i64 (r 7)) := by rw [hr]; exact h.d p 7 hp (by omega)
  have hpi : (p : Int) < 17 := by omega
  clear h hr hp
  go_enter Tryz.func231, Tryz.ntmps231
  go_wp2
  go_loop [5, 6, 13] (fun u v i => ∃ k : Nat, k ≤ 8 ∧ i = .int .i64 k ∧ Hid (∀ j, j < k → r j ≠ 0)) (fun _ _ i => 8 - (intOf i).toNat)
  case atStart => exact ⟨0, by omega, rfl, fun j hj => absurd hj (by omega)⟩
  case round =>
    obtain ⟨k, hk8, rfl, HK⟩ := hrel
    by_cases hlt : k < 8
    · have hki : (k : Int) < 8 := by omega
      have hix := row_at r k hlt w
      have HX := Lib.hid hlt
      by_cases hz : r k = 0
      · have hz' : ((r k : Int) == 0) = true := by simp [hz]
        have HZ := Lib.hid hz
        clear hz
        go_wp2
        go_ret
        exact ⟨rfl, .inl ⟨k, HX.out, HZ.out, HK.out, rfl⟩⟩
      · have hz' : ((r k : Int) == 0) = false := by simp; omega
        have HZ := Lib.hid hz
        clear hz
        go_wp2
        go_round
        case rel => exact ⟨k + 1, by omega, rfl, fun j hj => by
          rcases Nat.lt_succ_iff_lt_or_eq.mp hj with q | q
          · exact HK.out j q
          · rw [q]; exact HZ.out⟩
        case measure => simp [intOf]; omega
    · obtain rfl : k = 8 := by omega
      go_wp2
      go_ret
      exact ⟨rfl, .inr ⟨HK.out, rfl⟩⟩

theorem OTab.setAll {w : World} {b k : Nat} {fs : Nat → F} {fd : Nat → Nat} (h : OTab w b fs fd) (hk : k < 32) (e : F) :
    OTab ((((((w.setCell ⟨b, k * 6, none⟩ (.int .i64 e.kind)).setCell ⟨b, k * 6 + 1, none⟩ (.int .i64 e.id)).setCell ⟨b, k * 6 + 2, none⟩ (.int .i64 e.may)).setCell ⟨b, k * 6 + 3, none⟩ (.bool e.more)).setCell ⟨b, k * 6 + 4, none⟩ (.int .i64 e.pos)).setCell ⟨b, k * 6 + 5, none⟩ (.int .i64 e.n)) b (updF fs k e) fd := by
  have s0 := h.setF hk (f := 0) (by omega) (v := .int .i64 e.kind) (e := { fs k with kind := e.kind }) rfl rfl rfl rfl rfl rfl
  have s1 := s0.setF hk (f := 1) (by omega) (v := .int .i64 e.id) (e := { fs k with kind := e.kind, id := e.id }) (by rw [updF_same]; rfl) rfl (by rw [updF_same]; rfl) (by rw [updF_same]; rfl) (by rw [updF_same]; rfl) (by rw [updF_same]; rfl)
  rw [updF_twice] at s1
  have s2 := s1.setF hk (f := 2) (by omega) (v := .int .i64 e.may) (e := { fs k with kind := e.kind, id := e.id, may := e.may }) (by rw [updF_same]; rfl) (by rw [updF_same]; rfl) rfl (by rw [updF_same]; rfl) (by rw [updF_same]; rfl) (by rw [updF_same]; rfl)
  rw [updF_twice] at s2
  have s3 := s2.setF hk (f := 3) (by omega) (v := .bool e.more) (e := { fs k with kind := e.kind, id := e.id, may := e.may, more := e.more }) (by rw [updF_same]; rfl) (by rw [updF_same]; rfl) (by rw [updF_same]; rfl) rfl (by rw [updF_same]; rfl) (by rw [updF_same]; rfl)
  rw [updF_twice] at s3
  have s4 := s3.setF hk (f := 4) (by omega) (v := .int .i64 e.pos) (e := { fs k with kind := e.kind, id := e.id, may := e.may, more := e.more, pos := e.pos }) (by rw [updF_same]; rfl) (by rw [updF_same]; rfl) (by rw [updF_same]; rfl) (by rw [updF_same]; rfl) rfl (by rw [updF_same]; rfl)
  rw [updF_twice] at s4
  have s5 := s4.setF hk (f := 5) (by omega) (v := .int .i64 e.n) (e := e) (by rw [updF_same]; rfl) (by rw [updF_same]; rfl) (by rw [updF_same]; rfl) (by rw [updF_same]; rfl) (by rw [updF_same]; rfl) rfl
  rw [updF_twice] at s5
  exact s5
theorem OTab.setD1 {w : World} {b : Nat} {fs : Nat → F} {fd : Nat → Nat} (h : OTab w b fs fd) {p j : Nat} (hp : p < 17) (hj : j < 8) {k : Nat} (hk : k < 32) : OTab (w.setCell ⟨b, 192 + p * 8 + j, none⟩ (.int .i64 ((k : Int) + 1))) b fs (updN fd (p * 8 + j) (k + 1)) := h.setD hp hj (x := k + 1) hk
def OpenPost (b p : Nat) (fs : Nat → F) (fd : Nat → Nat) (t : F) (w : World) (e : Ending) (w' : World) : Prop :=
  KB b w w' ∧ ((∃ j k, j < 8 ∧ fd (p * 8 + j) = 0 ∧ (∀ i, i < j → fd (p * 8 + i) ≠ 0) ∧ k < 32 ∧ (fs k).n = 0 ∧ (∀ i, i < k → (fs i).n ≠ 0) ∧ e = .returned (.tuple #[.int .i64 j, .int .i64 0]) ∧ OTab w' b (updF fs k t) (updN fd (p * 8 + j) (k + 1)))
    ∨ ((∀ i, i < 8 → fd (p * 8 + i) ≠ 0) ∨ (∀ i, i < 32 → (fs i).n ≠ 0)) ∧ e = .returned (.tuple #[.int .i64 0, .int .i64 6]) ∧ OTab w' b fs fd)
set_option maxRecDepth 100000 in
set_option maxHeartbeats 400000 in
theorem open_is {w : World} {b p : Nat} {fs : Nat → F} {fd : Nat → Nat} {kd id may : Int} (hk1 : 1 ≤ kd) (hk3 : kd ≤ 3) (h : OTab w b fs fd) (h1 : 1 ≤ p) (h2 : p ≤ 16) (hid : 0 ≤ id) (hm : 0 ≤ may) (hm3 : may ≤ 3) :
    Calls Tryz.prog 159 #[.pointer (some ⟨b, 0, none⟩), .int .i64 p, .agg #[.int .i64 kd, .int .i64 id, .int .i64 may, .bool false, .int .i64 0]] w (OpenPost b p fs fd ⟨kd, id, may, false, 0, 1⟩ w) := by
  have HO := Lib.hid (owner_is h1 h2)
  have HH := Lib.hid (h.alloc (.cells #[.int .i64 kd, .int .i64 id, .int .i64 may, .bool false, .int .i64 0] 177))
  have hbs := Nat.ne_of_lt h.lt
  obtain ⟨r, hr⟩ : ∃ r : Nat → Nat, ∀ i, r i = fd (p * 8 + i) := ⟨fun i => fd (p * 8 + i), fun _ => rfl⟩
  have HFR := Lib.hid (free_is HH.out (show p < 17 by omega) r hr)
  have HR := Lib.hid hr
  have HP := Lib.hid (show p < 17 by omega)
  clear h h1 h2 hr
  go_enter Tryz.func159, Tryz.ntmps159
  go_wp2_with fail
  refine (HO.out _).mono ?_
  rintro e w1 ⟨rfl, rfl⟩
  go_wp2_with fail
  refine HFR.out.mono ?_
  rintro e w1 ⟨rfl, ⟨j, hj8, hj0, hjm, rfl⟩ | ⟨hn, rfl⟩⟩
  · have HJ := Lib.hid (And.intro hj8 (And.intro hj0 hjm))
    have hji : (j : Int) < 8 := by omega
    have hpi : (p : Int) < 17 := by have := HP.out; omega
    clear hj8 hj0 hjm
    go_wp2_with fail
    go_loop [9, 48] (fun u i => ∃ k : Nat, k ≤ 32 ∧ i = .int .i64 k ∧ Hid (∀ j, j < k → (fs j).n ≠ 0)) (fun _ i => 32 - (intOf i).toNat)
    case atStart => exact ⟨0, by omega, rfl, fun j hj => absurd hj (by omega)⟩
    case round =>
      obtain ⟨k, hk, rfl, HK⟩ := hrel
      by_cases hlt : k < 32
      · have hki : (k : Int) < 32 := by omega
        have HX := Lib.hid hlt
        have c5 := HH.out.c5 k hlt
        by_cases hz : (fs k).n = 0
        · have HZ := Lib.hid hz
          have hz' : ((fs k).n == 0) = true := by simp [hz]
          have c0 := HH.out.c0 k hlt
          have c1 := HH.out.c1 k hlt
          have c2 := HH.out.c2 k hlt
          have c3 := HH.out.c3 k hlt
          have c4 := HH.out.c4 k hlt
          have d := HH.out.d p j HP.out HJ.out.1
          have zb : ∀ i, (w.alloc (.cells #[.int .i64 kd, .int .i64 id, .int .i64 may, .bool false, .int .i64 0] 177)).frozen? ⟨b, i, none⟩ = false := HH.out.fz
          clear hz hlt
          go_wp2_with fail
          go_region
          go_wp2
          go_ret2
          refine ⟨?_, .inl ⟨j, k, HJ.out.1, by rw [← HR.out]; exact HJ.out.2.1, fun i hi => by rw [← HR.out]; exact HJ.out.2.2 i hi, HX.out, HZ.out, HK.out, rfl, ?_⟩⟩
          · exact (((((((KB.rfl' b w).alloc _).setc _ _).setc _ _).setc _ _).setc _ _).setc _ _).setc _ _ |>.setc _ _ |>.drew
          · exact ((HH.out.setAll HX.out ⟨kd, id, may, false, 0, 1⟩).setD1 HP.out HJ.out.1 HX.out).drew
        · have hz' : ((fs k).n == 0) = false := by simp [hz]
          have HZ := Lib.hid hz
          clear hz
          go_wp2
          go_round
          case rel => exact ⟨k + 1, by omega, rfl, fun j hj => by
            rcases Nat.lt_succ_iff_lt_or_eq.mp hj with q | q
            · exact HK.out j q
            · rw [q]; exact HZ.out⟩
          case measure => simp [intOf]; omega
      · obtain rfl : k = 32 := by omega
        go_wp2
        go_ret2
        exact ⟨KB.alloc (KB.rfl' _ _) _, .inr ⟨.inr HK.out, rfl, HH.out⟩⟩
  · go_wp2
    go_ret2
    exact ⟨KB.alloc (KB.rfl' _ _) _, .inr ⟨.inl (fun i hi => by rw [← HR.out i]; exact hn i hi), rfl, HH.out⟩⟩
end Go.Proofs.YtdkbmkapnapahaaGreatDoor.OpenLaw
