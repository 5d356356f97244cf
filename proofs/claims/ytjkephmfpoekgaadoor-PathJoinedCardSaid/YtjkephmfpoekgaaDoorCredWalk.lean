/- The walks of package cred: Check, In. -/
import Derived.Test.YtjkephmfpoekgaaDoorCredPlain
import Derived.Test.YtjkephmfpoekgaaDoorProg
import Derived.Test.YtjkephmfpoekgaaDoorBase
import Derived.WalkSmall
import Derived.BigQuiet
import Derived.Lib.SmallJoins
namespace Go.Proofs.YtjkephmfpoekgaaDoor.CredLaw
open Go.RowKit
set_option linter.unusedVariables false

def encC (c : C) (m : Value) : Value := .agg #[.int .i64 c.user, .int .i64 c.group, m, .int .i64 c.caps, .int .i64 c.level, .int .i64 c.kind]
def IsC (w : World) (v : Value) (c : C) : Prop := ∃ m, v = encC c m ∧ At (Value.int .i64) 0 w m c.xs
theorem IsC.below {w w' : World} {v : Value} {c : C} (h : IsC w v c) (hb : Below w.heap.size w w') : IsC w' v c := by
  obtain ⟨m, h1, h2⟩ := h
  exact ⟨m, h1, h2.keep hb⟩

set_option maxRecDepth 100000 in
set_option maxHeartbeats 2000000 in
theorem check_bad (c : C) (m : Value) (w : World) (h : ¬ ids c) :
    Calls Tryd.prog 21 #[encC c m] w fun e w' => e = .returned (.int .i64 (chkC c)) ∧ Below w.heap.size w w' := by
  have hc := Lib.hid (chkC_ids h)
  obtain ⟨user, group, xs, caps, level, kind⟩ := c
  have hcase : user < 0 ∨ (0 ≤ user ∧ 99 < user) ∨ ((0 ≤ user ∧ user ≤ 99) ∧ group < 0) ∨ ((0 ≤ user ∧ user ≤ 99) ∧ 0 ≤ group ∧ 99 < group) := by simp only [ids] at h; omega
  clear h
  simp only [encC]
  rcases hcase with hh | hh | hh | hh
  · go_enter Tryd.func21, Tryd.ntmps21
    go_wp2
    refine wp_loop_rounds 3 ?_
    rw [rounds_succ]
    go_wp2
    go_ret
    exact ⟨ret_int hc.out.symm, Go.Joins.below_alloc2 _ _ _⟩
  · go_enter Tryd.func21, Tryd.ntmps21
    go_wp2
    refine wp_loop_rounds 3 ?_
    rw [rounds_succ]
    go_wp2
    go_ret
    exact ⟨ret_int hc.out.symm, Go.Joins.below_alloc2 _ _ _⟩
  · go_enter Tryd.func21, Tryd.ntmps21
    go_wp2
    refine wp_loop_rounds 3 ?_
    rw [rounds_succ]
    go_wp2
    rw [rounds_succ]
    go_wp2
    go_ret
    exact ⟨ret_int hc.out.symm, Go.Joins.below_alloc2 _ _ _⟩
  · go_enter Tryd.func21, Tryd.ntmps21
    go_wp2
    refine wp_loop_rounds 3 ?_
    rw [rounds_succ]
    go_wp2
    rw [rounds_succ]
    go_wp2
    go_ret
    exact ⟨ret_int hc.out.symm, Go.Joins.below_alloc2 _ _ _⟩

set_option maxRecDepth 100000 in
set_option maxHeartbeats 4000000 in
theorem check_good (c : C) (m : Value) (w : World) (h : ids c) (hm : At (Value.int .i64) 0 w m c.xs) :
    Calls Tryd.prog 21 #[encC c m] w fun e w' => e = .returned (.int .i64 (chkC c)) ∧ Below w.heap.size w w' := by
  obtain ⟨a, cap, rfl, hl, hcap, hm⟩ := hm
  have HI := Lib.hid h
  have h' := h
  obtain ⟨u0, u1, g0, g1⟩ := h'
  clear h
  by_cases h4 : c.xs.length > 4
  · have hc := Lib.hid (chkC_long HI.out h4)
    obtain ⟨n, hn⟩ : ∃ n, n = c.xs.length := ⟨_, rfl⟩
    rw [← hn] at h4 hl ⊢
    clear hm hn
    simp only [encC]
    go_enter Tryd.func21, Tryd.ntmps21
    go_wp2
    refine wp_loop_rounds 3 ?_
    rw [rounds_succ]
    go_wp2
    rw [rounds_succ]
    go_wp2
    rw [rounds_succ]
    go_wp2
    go_ret
    exact ⟨ret_int hc.out.symm, Go.Joins.below_alloc2 _ _ _⟩
  · have hfit : (fits c ∧ Hid (fits c)) ∨ (Hid (¬ fits c) ∧ (c.caps < 0 ∨ (0 ≤ c.caps ∧ 127 < c.caps) ∨ ((0 ≤ c.caps ∧ c.caps ≤ 127) ∧ c.level < 0) ∨ ((0 ≤ c.caps ∧ c.caps ≤ 127) ∧ 0 ≤ c.level ∧ 7 < c.level) ∨ ((0 ≤ c.caps ∧ c.caps ≤ 127) ∧ (0 ≤ c.level ∧ c.level ≤ 7) ∧ c.kind < 0) ∨ ((0 ≤ c.caps ∧ c.caps ≤ 127) ∧ (0 ≤ c.level ∧ c.level ≤ 7) ∧ 0 ≤ c.kind ∧ 255 < c.kind))) := by
      by_cases h : fits c
      · exact .inl ⟨h, h⟩
      · refine .inr ⟨h, ?_⟩
        unfold fits at h
        omega
    rcases hm with hnil | ⟨b, off, rfl, hlt, hcell⟩
    · have H3 : Hid (chkP none c.xs = 0) := by rw [hnil]; rfl
      have H4 := Lib.hid h4
      have hz : c.xs.length = 0 := by rw [hnil]; rfl
      rw [hz] at hl ⊢
      clear h4 hz hnil
      simp only [encC]
      go_enter Tryd.func21, Tryd.ntmps21
      go_wp2
      refine wp_loop_rounds 3 ?_
      rw [rounds_succ]
      go_wp2
      rw [rounds_succ]
      go_wp2
      rw [rounds_succ]
      go_wp2
      refine wp_loop_rounds 1 ?_
      rw [rounds_succ]
      rcases hfit with ⟨hf, HF⟩ | ⟨HF, hf⟩
      · obtain ⟨c0, c1, l0, l1, k0, k1⟩ := hf
        go_wp2
        go_ret
        exact ⟨ret_int (chkC_ok HI.out H4.out H3.out HF.out).symm, Go.Joins.below_alloc2 _ _ _⟩
      · rcases hf with hf | hf | hf | hf | hf | hf
        all_goals
          go_wp2
          go_ret
          exact ⟨ret_int (chkC_fits HI.out H4.out H3.out HF.out).symm, Go.Joins.below_alloc2 _ _ _⟩
    · obtain ⟨n, hn⟩ : ∃ n, n = c.xs.length := ⟨_, rfl⟩
      have H4 := Lib.hid h4
      rw [← hn] at h4 hl ⊢
      have HN := Lib.hid hn
      have HC := Lib.hid hcell
      clear hn hcell
      simp only [encC]
      go_enter Tryd.func21, Tryd.ntmps21
      go_wp2
      refine wp_loop_rounds 3 ?_
      rw [rounds_succ]
      go_wp2
      rw [rounds_succ]
      go_wp2
      rw [rounds_succ]
      go_wp2
      go_loop [31] (fun i => ∃ k : Nat, k ≤ n ∧ i = .int .i64 k ∧ Hid (chkP none c.xs = chkP (prev c.xs k) (c.xs.drop k))) (fun i => n - (intOf i).toNat)
      case atStart => exact ⟨0, Nat.zero_le _, rfl, rfl⟩
      case round =>
        obtain ⟨k, hk, rfl, HP⟩ := hrel
        by_cases hkn : k < n
        · obtain ⟨x, hx⟩ : ∃ x, x = c.xs.getD k 0 := ⟨_, rfl⟩
          have g1 := HC.out k (by rw [← HN.out]; exact hkn)
          rw [← hx] at g1
          have HX := Lib.hid hx
          clear hx
          have hxc : x < 0 ∨ (0 ≤ x ∧ 99 < x) ∨ (0 ≤ x ∧ x ≤ 99) := by omega
          rcases hxc with hxc | hxc | ⟨x0, x1⟩
          · go_wp2
            go_ret
            exact ⟨ret_int (by have := chkP_out (by rw [← HN.out]; exact hkn) HP.out (by rw [← HX.out]; omega); rw [chkC_more HI.out H4.out (by rw [this]; decide), this]), Go.Joins.below_alloc2 _ _ _⟩
          · go_wp2
            go_ret
            exact ⟨ret_int (by have := chkP_out (by rw [← HN.out]; exact hkn) HP.out (by rw [← HX.out]; omega); rw [chkC_more HI.out H4.out (by rw [this]; decide), this]), Go.Joins.below_alloc2 _ _ _⟩
          · cases k with
            | zero =>
              rw [Nat.add_zero] at g1
              go_wp2
              go_round
              case rel => exact ⟨1, by omega, by go_num, chkP_next0 (by rw [← HN.out]; exact hkn) (by rw [← HX.out]; omega)⟩
              case measure => simp [intOf]; omega
            | succ k =>
              obtain ⟨y, hy⟩ : ∃ y, y = c.xs.getD k 0 := ⟨_, rfl⟩
              have g2 := HC.out k (by rw [← HN.out]; omega)
              rw [← hy] at g2
              have HY := Lib.hid hy
              clear hy
              by_cases hxy : x ≤ y
              · go_wp2
                go_ret
                exact ⟨ret_int (by have := chkP_back (by rw [← HN.out]; exact hkn) HP.out (by rw [← HX.out]; omega) (by rw [← HX.out, ← HY.out]; exact hxy); rw [chkC_more HI.out H4.out (by rw [this]; decide), this]), Go.Joins.below_alloc2 _ _ _⟩
              · go_wp2
                go_round
                case rel => exact ⟨k + 2, by omega, by go_num, chkP_next (by rw [← HN.out]; exact hkn) HP.out (by rw [← HX.out]; omega) (by rw [← HX.out, ← HY.out]; exact hxy)⟩
                case measure => simp [intOf]; omega
        · obtain rfl : k = n := by omega
          have H3 := Lib.hid (chkP_end (by have := HP.out; rw [HN.out] at this; exact this))
          rcases hfit with ⟨hf, HF⟩ | ⟨HF, hf⟩
          · obtain ⟨c0, c1, l0, l1, k0, k1⟩ := hf
            go_wp2
            go_ret
            exact ⟨ret_int (chkC_ok HI.out H4.out H3.out HF.out).symm, Go.Joins.below_alloc2 _ _ _⟩
          · rcases hf with hf | hf | hf | hf | hf | hf
            all_goals
              go_wp2
              go_ret
              exact ⟨ret_int (chkC_fits HI.out H4.out H3.out HF.out).symm, Go.Joins.below_alloc2 _ _ _⟩

theorem check_is {w : World} {v : Value} {c : C} (h : IsC w v c) :
    Calls Tryd.prog 21 #[v] w fun e w' => e = .returned (.int .i64 (chkC c)) ∧ Below w.heap.size w w' := by
  obtain ⟨m, rfl, hm⟩ := h
  by_cases hi : ids c
  · exact check_good c m w hi hm
  · exact check_bad c m w hi
end Go.Proofs.YtjkephmfpoekgaaDoor.CredLaw
