/- The walks of irq.Mask, irq.Next, irq.Take. -/
import Derived.Test.YtddfgdodpjmjfaaIrqWalk
namespace Go.Proofs.Ytddfgdodpjmjfaa.IrqLaw
open Go.RowKit
set_option linter.unusedVariables false

theorem next_any (l : Ln) (w : World) :
    Calls Try.prog 31 #[.agg #[.int .i64 l.e, .int .i64 l.u, .int .i64 l.m, .int .i64 l.p]] w fun e w' => e = .returned (.tuple #[.int .i64 (nextR l).1, .int .i64 (nextR l).2]) ∧ Below w.heap.size w w' := by
  by_cases hc : chkL l = 0
  · obtain ⟨h0, h1⟩ := ready_range hc
    obtain ⟨r, hr⟩ : ∃ r, r = readyL l := ⟨_, rfl⟩
    rw [← hr] at h0 h1
    have HC := Lib.hid hc
    have HR := Lib.hid hr
    clear hc hr
    go_enter Try.func31, Try.ntmps31
    go_wp2_with fail
    refine (check_any l _).mono ?_
    rintro e w1 ⟨rfl, hb1⟩
    rw [HC.out]
    obtain ⟨c0, c1, c2, c3, z⟩ := cells4 ((hb1.block w.heap.size (by simp)).trans (heap_alloc_new w _))
    have hb := ((Below.refl _ _).alloc (Nat.le_refl _) _).trans (hb1.mono (B' := w.heap.size) (by simp))
    clear hb1
    go_wp2
    have e5 : bits .andNot .i64 (bits .or .i64 l.p (bits .andNot .i64 l.u l.e)) l.m = r := HR.out.symm
    rw [e5]
    clear e5
    go_loop [23] (fun i => ∃ k : Nat, k ≤ 8 ∧ i = .int .i64 k ∧ Hid (∀ j, j < k → hit r j = false)) (fun i => 8 - (intOf i).toNat)
    case atStart => exact ⟨0, by omega, rfl, fun j hj => absurd hj (Nat.not_lt_zero _)⟩
    case round =>
      obtain ⟨k, hk, rfl, HM⟩ := hrel
      by_cases hlt : k < 8
      · cases hh : (bits .and .i64 (r / 2 ^ k) 1 == 1)
        · have HI : Hid (hit r k = false) := hh
          go_wp2
          go_round
          case rel => exact ⟨k + 1, by omega, by go_num, fun j hj => by
            rcases Nat.lt_succ_iff_lt_or_eq.1 hj with h | rfl
            · exact HM.out j h
            · exact HI.out⟩
          case measure => simp [intOf]; omega
        · have HI : Hid (hit r k = true) := hh
          go_wp2
          go_ret2
          rw [nextR, if_pos HC.out, ← HR.out, firstHit_some hlt HM.out HI.out]
          exact ⟨rfl, hb⟩
      · obtain rfl : k = 8 := by omega
        go_wp2
        go_ret2
        rw [nextR, if_pos HC.out, ← HR.out, firstHit_none HM.out]
        exact ⟨rfl, hb⟩
  · have hne : (chkL l != 0) = true := by simp [hc]
    have HR : Hid (nextR l = (0, chkL l)) := by show _ = _; rw [nextR, if_neg hc]
    clear hc
    go_enter Try.func31, Try.ntmps31
    go_wp2_with fail
    refine (check_any l _).mono ?_
    rintro e w1 ⟨rfl, hb1⟩
    go_wp2
    go_ret2
    rw [HR.out]
    exact ⟨rfl, ((Below.refl _ _).alloc (Nat.le_refl _) _).trans (hb1.mono (by simp))⟩

def takeR (l : Ln) : Ln := if (nextR l).2 = 0 then ⟨l.e, l.u, l.m, bits .andNot .i64 l.p (2 ^ (nextR l).1.toNat)⟩ else z4
def takeK (l : Ln) : Int := if (nextR l).2 = 0 then (nextR l).1 else 0
theorem nextR_range {l : Ln} (h : (nextR l).2 = 0) : 0 ≤ (nextR l).1 ∧ (nextR l).1 < 8 := by
  unfold nextR at *
  by_cases hc : chkL l = 0
  · rw [if_pos hc] at *
    cases hf : firstHit (readyL l) with
    | none => rw [hf] at h; cases h
    | some k => have := (firstHit_spec hf).1; simp; omega
  · rw [if_neg hc] at *; exact absurd h hc

theorem take_any (l : Ln) (w : World) :
    Calls Try.prog 32 #[.agg #[.int .i64 l.e, .int .i64 l.u, .int .i64 l.m, .int .i64 l.p]] w fun e w' =>
      e = .returned (.tuple #[.agg #[.int .i64 (takeR l).e, .int .i64 (takeR l).u, .int .i64 (takeR l).m, .int .i64 (takeR l).p], .int .i64 (takeK l), .int .i64 (nextR l).2]) ∧ Below w.heap.size w w' := by
  by_cases hz : (nextR l).2 = 0
  · obtain ⟨h0, h1⟩ := nextR_range hz
    have HT : Hid (takeR l = ⟨l.e, l.u, l.m, bits .andNot .i64 l.p (2 ^ (nextR l).1.toNat)⟩) := by show _ = _; rw [takeR, if_pos hz]
    have HK : Hid (takeK l = (nextR l).1) := by show _ = _; rw [takeK, if_pos hz]
    obtain ⟨r, hr⟩ : ∃ r, r = nextR l := ⟨_, rfl⟩
    rw [← hr] at hz h0 h1 HT HK ⊢
    have HR := Lib.hid hr
    clear hr
    obtain ⟨k, en⟩ := r
    simp only at hz h0 h1 HT HK ⊢
    subst hz
    obtain ⟨p0, p1⟩ := pow_lt k h1
    go_enter Try.func32, Try.ntmps32
    go_wp2_with fail
    refine (next_any l _).mono ?_
    rintro e w1 ⟨rfl, hb1⟩
    rw [← HR.out]
    obtain ⟨q1, q2, hsz, hb⟩ := two4 hb1
    obtain ⟨c0, c1, c2, c3, z⟩ := cells4 q1
    obtain ⟨d0, d1, d2, d3, z'⟩ := cells4 q2
    clear hb1 q1 q2
    go_wp2
    go_region
    all_goals go_wp2
    all_goals
      rw [HT.out, HK.out]
      refine bodyPost_ret (v := .tuple #[.agg #[.int .i64 l.e, .int .i64 l.u, .int .i64 l.m, .int .i64 (bits .andNot .i64 l.p (2 ^ k.toNat))], .int .i64 k, .int .i64 0]) (by simp [results, Try.results32, go_sem, c0, c1, c2, c3, d0, d1, d2, d3]) rfl ⟨rfl, ?_⟩
      repeat (first | refine Below.setCell ?_ (by simp) _ | refine Below.drew ?_)
      exact hb
  · have hne : ((nextR l).2 != 0) = true := by simp [hz]
    have HT : Hid (takeR l = z4) := by show _ = _; rw [takeR, if_neg hz]
    have HK : Hid (takeK l = 0) := by show _ = _; rw [takeK, if_neg hz]
    obtain ⟨r, hr⟩ : ∃ r, r = nextR l := ⟨_, rfl⟩
    rw [← hr] at hne ⊢
    have HR := Lib.hid hr
    clear hr hz
    obtain ⟨k, en⟩ := r
    simp only at hne ⊢
    go_enter Try.func32, Try.ntmps32
    go_wp2_with fail
    refine (next_any l _).mono ?_
    rintro e w1 ⟨rfl, hb1⟩
    rw [← HR.out]
    obtain ⟨q1, q2, hsz, hb⟩ := two4 hb1
    obtain ⟨d0, d1, d2, d3, z'⟩ := cells4 q2
    clear hb1 q1 q2
    go_wp2
    rw [HT.out, HK.out]
    refine bodyPost_ret (v := .tuple #[.agg #[.int .i64 0, .int .i64 0, .int .i64 0, .int .i64 0], .int .i64 0, .int .i64 en]) (by simp [results, Try.results32, go_sem, d0, d1, d2, d3]) rfl ⟨rfl, ?_⟩
    repeat (refine Below.setCell ?_ (by simp) _)
    exact hb

def maskL (l : Ln) (b : Int) (on : Bool) : Ln := if on then ⟨l.e, l.u, bits .or .i64 l.m b, l.p⟩ else ⟨l.e, l.u, bits .andNot .i64 l.m b, l.p⟩
def maskR (l : Ln) (k : Int) (on : Bool) : Ln := if (lineR l k).2 = 0 then maskL l (lineR l k).1 on else z4

theorem mask_any (l : Ln) (k : Int) (up : Bool) (w : World) :
    Calls Try.prog 30 #[.agg #[.int .i64 l.e, .int .i64 l.u, .int .i64 l.m, .int .i64 l.p], .int .i64 k, .bool up] w fun e w' =>
      e = .returned (.tuple #[.agg #[.int .i64 (maskR l k up).e, .int .i64 (maskR l k up).u, .int .i64 (maskR l k up).m, .int .i64 (maskR l k up).p], .int .i64 (lineR l k).2]) ∧ Below w.heap.size w w' := by
  obtain ⟨r, hr⟩ : ∃ r, r = lineR l k := ⟨_, rfl⟩
  have HS : Hid (maskR l k up = if r.2 = 0 then maskL l r.1 up else z4) := by show _ = _; rw [maskR, hr]
  rw [← hr]
  have HR := Lib.hid hr
  clear hr
  obtain ⟨b, en⟩ := r
  simp only at HS
  by_cases hz : en = 0
  · subst hz
    have HS' : Hid (maskR l k up = maskL l b up) := by show _ = _; rw [HS.out, if_pos rfl]
    clear HS
    cases up
    all_goals
      go_enter Try.func30, Try.ntmps30
      go_wp2_with fail
      refine (line_any l k _).mono ?_
      rintro e w1 ⟨rfl, hb1⟩
      rw [← HR.out]
      obtain ⟨q1, q2, hsz, hb⟩ := two4 hb1
      obtain ⟨c0, c1, c2, c3, z⟩ := cells4 q1
      obtain ⟨d0, d1, d2, d3, z'⟩ := cells4 q2
      clear hb1 q1 q2
      go_wp2
    all_goals
      rw [HS'.out]
      refine bodyPost_ret (v := .tuple #[.agg #[_, _, _, _], .int .i64 0]) (by simp [results, Try.results30, go_sem, c0, c1, c2, c3, d0, d1, d2, d3]; exact ⟨rfl, rfl, rfl, rfl⟩) rfl ⟨rfl, ?_⟩
      repeat (refine Below.setCell ?_ (by simp) _)
      exact hb
  · have hne : (en != 0) = true := by simp [hz]
    have HS' : Hid (maskR l k up = z4) := by show _ = _; rw [HS.out, if_neg hz]
    clear HS hz
    go_enter Try.func30, Try.ntmps30
    go_wp2_with fail
    refine (line_any l k _).mono ?_
    rintro e w1 ⟨rfl, hb1⟩
    rw [← HR.out]
    obtain ⟨q1, q2, hsz, hb⟩ := two4 hb1
    obtain ⟨c0, c1, c2, c3, z⟩ := cells4 q1
    obtain ⟨d0, d1, d2, d3, z'⟩ := cells4 q2
    clear hb1 q1 q2
    go_wp2
    rw [HS'.out]
    refine bodyPost_ret (v := .tuple #[.agg #[.int .i64 0, .int .i64 0, .int .i64 0, .int .i64 0], .int .i64 en]) (by simp [results, Try.results30, go_sem, d0, d1, d2, d3]) rfl ⟨rfl, ?_⟩
    repeat (refine Below.setCell ?_ (by simp) _)
    exact hb
end Go.Proofs.Ytddfgdodpjmjfaa.IrqLaw
