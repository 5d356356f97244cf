/- The walks of slices.Index, slices.Contains, cred.In. -/
import Derived.Test.YtjkephmfpoekgaaDoorCredWalk
namespace Go.Proofs.YtjkephmfpoekgaaDoor.CredLaw
open Go.RowKit
set_option linter.unusedVariables false

def IndexPost (xs : List Int) (x : Int) (w : World) (e : Ending) (w' : World) : Prop :=
  ∃ r : Int, e = .returned (.int .i64 r) ∧ decide (0 ≤ r) = xs.contains x ∧ w = w'
theorem contains_at {xs : List Int} {x : Int} {k : Nat} (hk : k < xs.length) (h : x = xs.getD k 0) : xs.contains x = true := by
  simp only [List.contains_iff_mem]
  rw [h]
  have : xs.getD k 0 = xs[k] := by simp [List.getD, hk]
  rw [this]; exact List.getElem_mem hk
theorem contains_none {xs : List Int} {x : Int} (h : ∀ j, j < xs.length → xs.getD j 0 ≠ x) : xs.contains x = false := by
  rw [Bool.eq_false_iff]
  intro hc
  rw [List.contains_iff_mem] at hc
  obtain ⟨j, hj, he⟩ := List.mem_iff_getElem.1 hc
  exact h j hj (by simp [List.getD, hj, he])

theorem index_any {w : World} {m : Value} {xs : List Int} (x : Int) (hm : At (Value.int .i64) 0 w m xs) (h63 : xs.length ≤ 4294967296) :
    Calls Tryd.prog 62 #[m, .int .i64 x] w (IndexPost xs x w) := by
  obtain ⟨a, cap, rfl, hl, hcap, hm⟩ := hm
  rcases hm with hnil | ⟨b, off, rfl, hlt, hcell⟩
  · subst hnil
    simp only [List.length_nil] at hl ⊢
    go_enter Tryd.func62, Tryd.ntmps62
    go_wp2
    refine wp_loop_rounds 1 ?_
    rw [rounds_succ]
    go_wp2
    go_ret
    exact ⟨-1, rfl, rfl, rfl⟩
  · obtain ⟨n, hn⟩ : ∃ n, n = xs.length := ⟨_, rfl⟩
    rw [← hn] at hl h63 ⊢
    have HN := Lib.hid hn
    have HC := Lib.hid hcell
    clear hn hcell
    unfold IndexPost
    go_enter Tryd.func62, Tryd.ntmps62
    go_wp2
    go_loop [8] (fun i => ∃ k : Nat, k ≤ n ∧ i = .int .i64 k ∧ Hid (∀ j, j < k → xs.getD j 0 ≠ x)) (fun i => n - (intOf i).toNat)
    case atStart => exact ⟨0, Nat.zero_le _, rfl, fun j hj => absurd hj (Nat.not_lt_zero _)⟩
    case round =>
      obtain ⟨k, hk, rfl, HM⟩ := hrel
      by_cases hkn : k < n
      · obtain ⟨y, hy⟩ : ∃ y, y = xs.getD k 0 := ⟨_, rfl⟩
        have g1 := HC.out k (by rw [← HN.out]; exact hkn)
        rw [← hy] at g1
        have HY := Lib.hid hy
        clear hy
        by_cases hxy : x = y
        · have hb : (x == y) = true := by simp [hxy]
          have HXY := Lib.hid hxy
          clear hxy
          go_wp2
          go_ret
          refine ⟨k, rfl, ?_, rfl⟩
          have hct := contains_at (by rw [← HN.out]; exact hkn) (HXY.out.trans HY.out)
          simp at hct
          simp [hct]
        · have hb : (x == y) = false := by simp [hxy]
          have HXY := Lib.hid hxy
          clear hxy
          go_wp2
          go_round
          case rel =>
            refine ⟨k + 1, by omega, by go_num, fun j hj => ?_⟩
            rcases Nat.lt_succ_iff_lt_or_eq.1 hj with h | rfl
            · exact HM.out j h
            · rw [← HY.out]; exact fun e => HXY.out e.symm
          case measure => simp [intOf]; omega
      · obtain rfl : k = n := by omega
        go_wp2
        go_ret
        refine ⟨-1, rfl, ?_, rfl⟩
        have hct := contains_none (fun j hj => HM.out j (by rw [HN.out]; exact hj))
        simp at hct
        simp [hct]
theorem contains_any {w : World} {m : Value} {xs : List Int} (x : Int) (hm : At (Value.int .i64) 0 w m xs) (h63 : xs.length ≤ 4294967296) :
    Calls Tryd.prog 61 #[m, .int .i64 x] w fun e w' => e = .returned (.bool (xs.contains x)) ∧ w = w' := by
  have HI := Lib.hid (index_any x hm h63)
  clear hm
  go_enter Tryd.func61, Tryd.ntmps61
  go_wp2_with fail
  refine HI.out.mono ?_
  rintro e w1 ⟨r, rfl, hr, rfl⟩
  have HR := Lib.hid hr
  clear hr
  go_wp2
  go_ret
  exact ⟨ret_bool HR.out, rfl⟩

def inC (c : C) (g : Int) : Bool := g == c.group || c.xs.contains g
set_option maxHeartbeats 400000 in
theorem in_is {w : World} {v : Value} {c : C} (g : Int) (h : IsC w v c) (hc : chkC c = 0) :
    Calls Tryd.prog 60 #[v, .int .i64 g] w fun e w' => e = .returned (.tuple #[.bool (inC c g), .int .i64 0]) ∧ Below w.heap.size w w' := by
  have h63 := ((chkC_zero c).1 hc).2.1
  obtain ⟨m, rfl, hm⟩ := h
  have hA : Below w.heap.size w (w.alloc (.cells #[.int .i64 c.user, .int .i64 c.group, m, .int .i64 c.caps, .int .i64 c.level, .int .i64 c.kind] 27)) := (Below.refl _ _).alloc (Nat.le_refl _) _
  have hcheck := check_is (c := c) ⟨m, rfl, hm.keep hA⟩
  rw [hc] at hcheck
  have hhas := has_new w [.int .i64 c.user, .int .i64 c.group, m, .int .i64 c.caps, .int .i64 c.level, .int .i64 c.kind] 27
  have HK := Lib.hid hcheck
  have HH := Lib.hid hhas
  have HM := Lib.hid hm
  have HA := Lib.hid hA
  clear hcheck hhas hm hA
  simp only [encC] at HK ⊢
  by_cases hg : g = c.group
  · have hb : (g == c.group) = true := by simp [hg]
    have HG := Lib.hid (show inC c g = true by rw [inC, hb]; rfl)
    clear hg
    go_enter Tryd.func60, Tryd.ntmps60
    go_wp2_with fail
    refine HK.out.mono ?_
    rintro e w1 ⟨rfl, hb1⟩
    have hH1 := HH.out.keep hb1
    have c1 := hH1.2 1 _ rfl
    have hb2 := HA.out.trans (hb1.mono HA.out.size)
    clear hH1 hb1
    go_wp2
    go_ret2
    exact ⟨by rw [HG.out]; rfl, hb2⟩
  · have hb : (g == c.group) = false := by simp [hg]
    have HG := Lib.hid (show inC c g = decide (g ∈ c.xs) by rw [inC, hb]; simp)
    clear hg
    go_enter Tryd.func60, Tryd.ntmps60
    go_wp2_with fail
    refine HK.out.mono ?_
    rintro e w1 ⟨rfl, hb1⟩
    have hH1 := HH.out.keep hb1
    have c1 := hH1.2 1 _ rfl
    have c2 := hH1.2 2 _ rfl
    have hb2 := HA.out.trans (hb1.mono HA.out.size)
    clear hH1 hb1
    go_wp2_with fail
    refine (contains_any g (HM.out.keep hb2) (by omega)).mono ?_
    rintro e w2 ⟨rfl, rfl⟩
    simp only [List.contains_eq_mem]
    go_wp2
    go_ret2
    exact ⟨by rw [HG.out]; rfl, hb2⟩

/-! ### package mode -/
structure S where
  kind : Int
  mode : Int
  user : Int
  group : Int
  size : Int
  links : Int
def encS (s : S) : Value := .agg #[.int .i64 s.kind, .int .i64 s.mode, .int .i64 s.user, .int .i64 s.group, .int .i64 s.size, .int .i64 s.links]
def fineS (s : S) : Prop := 0 ≤ s.mode ∧ s.mode ≤ 511 ∧ 0 ≤ s.user ∧ s.user ≤ 99 ∧ 0 ≤ s.group ∧ s.group ≤ 99
instance (s : S) : Decidable (fineS s) := by unfold fineS; infer_instance
def chkS (s : S) : Int := if fineS s then 0 else 1
set_option maxHeartbeats 400000 in
theorem checkS_any (s : S) (w : World) : Calls Tryd.prog 51 #[encS s] w fun e w' => e = .returned (.int .i64 (chkS s)) ∧ Below w.heap.size w w' := by
  by_cases h : fineS s
  · have hc := Lib.hid (show chkS s = 0 by rw [chkS, if_pos h])
    obtain ⟨m0, m1, u0, u1, g0, g1⟩ := h
    simp only [encS]
    go_enter Tryd.func51, Tryd.ntmps51
    go_wp2
    go_ret
    exact ⟨ret_int hc.out.symm, Go.Joins.below_alloc1 _ _⟩
  · have hc := Lib.hid (show chkS s = 1 by rw [chkS, if_neg h])
    have hcase : s.mode < 0 ∨ (0 ≤ s.mode ∧ 511 < s.mode) ∨ ((0 ≤ s.mode ∧ s.mode ≤ 511) ∧ s.user < 0) ∨ ((0 ≤ s.mode ∧ s.mode ≤ 511) ∧ 0 ≤ s.user ∧ 99 < s.user) ∨ ((0 ≤ s.mode ∧ s.mode ≤ 511) ∧ (0 ≤ s.user ∧ s.user ≤ 99) ∧ s.group < 0) ∨ ((0 ≤ s.mode ∧ s.mode ≤ 511) ∧ (0 ≤ s.user ∧ s.user ≤ 99) ∧ 0 ≤ s.group ∧ 99 < s.group) := by unfold fineS at h; omega
    clear h
    simp only [encS]
    rcases hcase with hh | hh | hh | hh | hh | hh
    all_goals
      go_enter Tryd.func51, Tryd.ntmps51
      go_wp2
      go_ret
      exact ⟨ret_int hc.out.symm, Go.Joins.below_alloc1 _ _⟩
end Go.Proofs.YtjkephmfpoekgaaDoor.CredLaw
