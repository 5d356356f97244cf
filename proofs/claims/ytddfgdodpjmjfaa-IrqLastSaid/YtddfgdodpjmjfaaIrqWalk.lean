/- The walks of package irq. -/
import Derived.Test.YtddfgdodpjmjfaaIrqPlain
import Derived.Test.YtddfgdodpjmjfaaCommon
namespace Go.Proofs.Ytddfgdodpjmjfaa.IrqLaw
open Go.RowKit
set_option linter.unusedVariables false

abbrev agg4 (l : Ln) : Value := .agg #[.int .i64 l.e, .int .i64 l.u, .int .i64 l.m, .int .i64 l.p]

set_option maxHeartbeats 400000 in
theorem check_any (l : Ln) (w : World) :
    Calls Try.prog 64 #[.agg #[.int .i64 l.e, .int .i64 l.u, .int .i64 l.m, .int .i64 l.p]] w fun e w' => e = .returned (.int .i64 (chkL l)) ∧ Below w.heap.size w w' := by
  go_enter Try.func64, Try.ntmps64
  go_wp2
  go_loopw [15] (fun i wr => ∃ k : Nat, k ≤ 4 ∧ i = .int .i64 k ∧ wr = ((w.alloc (.cells #[.int .i64 l.e, .int .i64 l.u, .int .i64 l.m, .int .i64 l.p] 57)).alloc (.cells #[.int .i64 l.e, .int .i64 l.u, .int .i64 l.m, .int .i64 l.p] 3)) ∧ Hid (∀ j, j < k → inB ((nums l).getD j 0) = true)) (fun i _ => 4 - (intOf i).toNat)
  case atStart => exact ⟨0, by omega, rfl, rfl, fun j hj => absurd hj (Nat.not_lt_zero _)⟩
  case round =>
    obtain ⟨k, hk, rfl, rfl, HM⟩ := hrel
    by_cases hlt : k < 4
    · obtain ⟨x, hx⟩ : ∃ x, x = (nums l).getD k 0 := ⟨_, rfl⟩
      have g : ((w.alloc (.cells #[.int .i64 l.e, .int .i64 l.u, .int .i64 l.m, .int .i64 l.p] 57)).alloc (.cells #[.int .i64 l.e, .int .i64 l.u, .int .i64 l.m, .int .i64 l.p] 3)).cell? ⟨w.heap.size + 1, k, none⟩ = some (.int .i64 x) := by
        rw [hx]
        rcases (by omega : k = 0 ∨ k = 1 ∨ k = 2 ∨ k = 3) with rfl | rfl | rfl | rfl <;> simp [nums]
      have HX := Lib.hid hx
      clear hx
      by_cases h0 : 0 ≤ x
      · by_cases h1 : x ≤ 255
        · have HI : Hid (inB x = true) := (inB_iff x).2 ⟨h0, h1⟩
          go_wp2
          go_roundw
          case rel => exact ⟨k + 1, by omega, by go_num, by simp, fun j hj => by
            rcases Nat.lt_succ_iff_lt_or_eq.1 hj with h | rfl
            · exact HM.out j h
            · rw [← HX.out]; exact HI.out⟩
          case measure => simp [intOf]; omega
        · have HI : Hid (¬ inB x = true) := by show ¬ _; rw [inB_iff]; omega
          go_wp2
          go_ret
          exact ⟨ret_int (chk_bad hlt (by rw [← HX.out]; exact HI.out)).symm, ((Below.refl _ _).alloc (Nat.le_refl _) _).alloc (by simp) _⟩
      · have HI : Hid (¬ inB x = true) := by show ¬ _; rw [inB_iff]; omega
        go_wp2
        go_ret
        exact ⟨ret_int (chk_bad hlt (by rw [← HX.out]; exact HI.out)).symm, ((Below.refl _ _).alloc (Nat.le_refl _) _).alloc (by simp) _⟩
    · obtain rfl : k = 4 := by omega
      have HA := Lib.hid (all_of HM.out)
      by_cases hz : bits .andNot .i64 l.p l.e = 0
      · have hb : (bits .andNot .i64 l.p l.e != 0) = false := by simp [hz]
        have HZ := Lib.hid hz
        clear hz
        go_wp2
        go_ret
        exact ⟨ret_int (by rw [chkL, if_pos HA.out, if_pos HZ.out]), ((Below.refl _ _).alloc (Nat.le_refl _) _).alloc (by simp) _⟩
      · have hb : (bits .andNot .i64 l.p l.e != 0) = true := by simp [hz]
        have HZ := Lib.hid hz
        clear hz
        go_wp2
        go_ret
        exact ⟨ret_int (by rw [chkL, if_pos HA.out, if_neg HZ.out]), ((Below.refl _ _).alloc (Nat.le_refl _) _).alloc (by simp) _⟩

def lineR (l : Ln) (k : Int) : Int × Int := if chkL l = 0 then (if 0 ≤ k ∧ k < 8 then (2 ^ k.toNat, 0) else (0, 1)) else (0, chkL l)

theorem pow_lt (k : Int) (h : k < 8) : (0 : Int) ≤ 2 ^ k.toNat ∧ (2 : Int) ^ k.toNat ≤ 128 := by
  have : k.toNat = 0 ∨ k.toNat = 1 ∨ k.toNat = 2 ∨ k.toNat = 3 ∨ k.toNat = 4 ∨ k.toNat = 5 ∨ k.toNat = 6 ∨ k.toNat = 7 := by omega
  rcases this with h | h | h | h | h | h | h | h <;> rw [h] <;> decide

theorem line_any (l : Ln) (k : Int) (w : World) :
    Calls Try.prog 63 #[.agg #[.int .i64 l.e, .int .i64 l.u, .int .i64 l.m, .int .i64 l.p], .int .i64 k] w fun e w' => e = .returned (.tuple #[.int .i64 (lineR l k).1, .int .i64 (lineR l k).2]) ∧ Below w.heap.size w w' := by
  by_cases hc : chkL l = 0
  · have HC := Lib.hid hc
    clear hc
    by_cases hk : 0 ≤ k ∧ k < 8
    · have HR : Hid (lineR l k = (2 ^ k.toNat, 0)) := by show _ = _; rw [lineR, if_pos HC.out, if_pos hk]
      obtain ⟨k0, k1⟩ := hk
      have HP := pow_lt k k1
      obtain ⟨hp0, hp1⟩ := HP
      go_enter Try.func63, Try.ntmps63
      go_wp2_with fail
      refine (check_any l _).mono ?_
      rintro e w1 ⟨rfl, hb1⟩
      rw [HC.out]
      go_wp2
      go_ret2
      rw [HR.out]
      exact ⟨rfl, ((Below.refl _ _).alloc (Nat.le_refl _) _).trans (hb1.mono (by simp))⟩
    · have HR : Hid (lineR l k = (0, 1)) := by show _ = _; rw [lineR, if_pos HC.out, if_neg hk]
      have hk' : k < 0 ∨ (0 ≤ k ∧ 8 ≤ k) := by omega
      clear hk
      rcases hk' with hk | hk
      all_goals
        go_enter Try.func63, Try.ntmps63
        go_wp2_with fail
        refine (check_any l _).mono ?_
        rintro e w1 ⟨rfl, hb1⟩
        rw [HC.out]
        go_wp2
        go_ret2
        rw [HR.out]
        exact ⟨rfl, ((Below.refl _ _).alloc (Nat.le_refl _) _).trans (hb1.mono (by simp))⟩
  · have hne : (chkL l != 0) = true := by simp [hc]
    have HR : Hid (lineR l k = (0, chkL l)) := by show _ = _; rw [lineR, if_neg hc]
    clear hc
    go_enter Try.func63, Try.ntmps63
    go_wp2_with fail
    refine (check_any l _).mono ?_
    rintro e w1 ⟨rfl, hb1⟩
    go_wp2
    go_ret2
    rw [HR.out]
    exact ⟨rfl, ((Below.refl _ _).alloc (Nat.le_refl _) _).trans (hb1.mono (by simp))⟩

def setL (l : Ln) (b : Int) (up : Bool) : Ln :=
  if up then ⟨l.e, bits .or .i64 l.u b, l.m, bits .or .i64 l.p (bits .andNot .i64 (bits .and .i64 b l.e) l.u)⟩ else ⟨l.e, bits .andNot .i64 l.u b, l.m, l.p⟩
def z4 : Ln := ⟨0, 0, 0, 0⟩

/-- two new blocks of four cells, behind a call -/
theorem two4 {w w1 : World} {T : TypeId} {a b c d x y z t : Int}
    (hb1 : Below ((w.alloc (.cells #[.int .i64 a, .int .i64 b, .int .i64 c, .int .i64 d] T)).alloc (.cells #[.int .i64 x, .int .i64 y, .int .i64 z, .int .i64 t] T)).heap.size ((w.alloc (.cells #[.int .i64 a, .int .i64 b, .int .i64 c, .int .i64 d] T)).alloc (.cells #[.int .i64 x, .int .i64 y, .int .i64 z, .int .i64 t] T)) w1) :
    w1.heap[w.heap.size]? = some (.cells #[.int .i64 a, .int .i64 b, .int .i64 c, .int .i64 d] T) ∧ w1.heap[w.heap.size + 1]? = some (.cells #[.int .i64 x, .int .i64 y, .int .i64 z, .int .i64 t] T) ∧ w.heap.size + 1 < w1.heap.size ∧ Below w.heap.size w w1 := by
  refine ⟨?_, ?_, ?_, ?_⟩
  · exact (hb1.block w.heap.size (by simp; omega)).trans (heap_alloc2_old w _ _)
  · exact (hb1.block (w.heap.size + 1) (by simp)).trans (heap_alloc2_new w _ _)
  · have := hb1.size; simp at this; omega
  · exact (((Below.refl _ _).alloc (Nat.le_refl _) _).alloc (by simp) _).trans (hb1.mono (by simp; omega))

/-- a block known whole: its four cells and their marks -/
theorem cells4 {w1 : World} {b : Nat} {T : TypeId} {x y z t : Value} (h : w1.heap[b]? = some (.cells #[x, y, z, t] T)) :
    w1.cell? ⟨b, 0, none⟩ = some x ∧ w1.cell? ⟨b, 1, none⟩ = some y ∧ w1.cell? ⟨b, 2, none⟩ = some z ∧ w1.cell? ⟨b, 3, none⟩ = some t ∧ (∀ o, w1.frozen? ⟨b, o, none⟩ = false) :=
  ⟨by rw [cell_of_row _ _ _ _ _ _ h]; rfl, by rw [cell_of_row _ _ _ _ _ _ h]; rfl, by rw [cell_of_row _ _ _ _ _ _ h]; rfl, by rw [cell_of_row _ _ _ _ _ _ h]; rfl, fun o => frozen_of_row _ _ _ _ _ h⟩

def setR (l : Ln) (k : Int) (up : Bool) : Ln := if (lineR l k).2 = 0 then setL l (lineR l k).1 up else z4

theorem set_any (l : Ln) (k : Int) (up : Bool) (w : World) :
    Calls Try.prog 29 #[.agg #[.int .i64 l.e, .int .i64 l.u, .int .i64 l.m, .int .i64 l.p], .int .i64 k, .bool up] w fun e w' =>
      e = .returned (.tuple #[.agg #[.int .i64 (setR l k up).e, .int .i64 (setR l k up).u, .int .i64 (setR l k up).m, .int .i64 (setR l k up).p], .int .i64 (lineR l k).2]) ∧ Below w.heap.size w w' := by
  obtain ⟨r, hr⟩ : ∃ r, r = lineR l k := ⟨_, rfl⟩
  have HS : Hid (setR l k up = if r.2 = 0 then setL l r.1 up else z4) := by show _ = _; rw [setR, hr]
  rw [← hr]
  have HR := Lib.hid hr
  clear hr
  obtain ⟨b, en⟩ := r
  simp only at HS
  by_cases hz : en = 0
  · subst hz
    have HS' : Hid (setR l k up = setL l b up) := by show _ = _; rw [HS.out, if_pos rfl]
    clear HS
    cases up
    all_goals
      go_enter Try.func29, Try.ntmps29
      go_wp2_with fail
      refine (line_any l k _).mono ?_
      rintro e w1 ⟨rfl, hb1⟩
      rw [← HR.out]
      obtain ⟨q1, q2, hsz, hb⟩ := two4 hb1
      obtain ⟨c0, c1, c2, c3, z⟩ := cells4 q1
      obtain ⟨d0, d1, d2, d3, z'⟩ := cells4 q2
      clear hb1 q1 q2
      go_wp2
    all_goals
      rw [HS'.out]
      refine bodyPost_ret (v := .tuple #[.agg #[_, _, _, _], .int .i64 0]) (by simp [results, Try.results29, go_sem, c0, c1, c2, c3, d0, d1, d2, d3]; exact ⟨rfl, rfl, rfl, rfl⟩) rfl ⟨rfl, ?_⟩
      repeat (refine Below.setCell ?_ (by simp) _)
      exact hb
  · have hne : (en != 0) = true := by simp [hz]
    have HS' : Hid (setR l k up = z4) := by show _ = _; rw [HS.out, if_neg hz]
    clear HS hz
    go_enter Try.func29, Try.ntmps29
    go_wp2_with fail
    refine (line_any l k _).mono ?_
    rintro e w1 ⟨rfl, hb1⟩
    rw [← HR.out]
    obtain ⟨q1, q2, hsz, hb⟩ := two4 hb1
    obtain ⟨c0, c1, c2, c3, z⟩ := cells4 q1
    obtain ⟨d0, d1, d2, d3, z'⟩ := cells4 q2
    clear hb1 q1 q2
    go_wp2
    rw [HS'.out]
    refine bodyPost_ret (v := .tuple #[.agg #[.int .i64 0, .int .i64 0, .int .i64 0, .int .i64 0], .int .i64 en]) (by simp [results, Try.results29, go_sem, d0, d1, d2, d3]) rfl ⟨rfl, ?_⟩
    repeat (refine Below.setCell ?_ (by simp) _)
    exact hb
end Go.Proofs.Ytddfgdodpjmjfaa.IrqLaw
