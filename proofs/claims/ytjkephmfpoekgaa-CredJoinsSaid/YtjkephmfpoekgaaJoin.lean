/- The walks of cred.Join and of the comparison of credentials. -/
import Derived.Test.YtjkephmfpoekgaaJoinPlain
namespace Go.Proofs.Ytjkephmfpoekgaa.CredLaw
open Go.RowKit SortLaw
set_option linter.unusedVariables false
set_option linter.unusedSimpArgs false
attribute [local go_sem ↓] load44_eq store44_eq zero44 cellsC_of
attribute [local go_sem] store44_new load44_new
set_option maxRecDepth 100000 in
set_option maxHeartbeats 400000 in
theorem in_bad {w : World} {m : Value} {c : C} (g : Int) (hm : At (Value.int .i64) 0 w m c.xs) (hz : chkC c ≠ 0) :
    Calls Try.prog 8 #[.agg (cellsC c m), .int .i64 g] w fun e w' => e = .returned (.tuple #[.bool false, .int .i64 (chkC c)]) ∧ Below w.heap.size w w' := by
  have HC := Lib.hid (check_c (hm.keep (Go.Joins.below_alloc1 w (.cells (cellsC c m) 24))))
  have HR := Lib.hid (row_new w 24 (cellsC c m))
  have HA := Lib.hid (Go.Joins.below_alloc1 w (.cells (cellsC c m) 24))
  have hl := HR.out.load44
  obtain ⟨z, hzc⟩ : ∃ z, chkC c = z := ⟨_, rfl⟩
  rw [hzc] at HC hz ⊢
  have h' : (z != 0) = true := by simpa using hz
  clear hm hzc hz
  go_enter Try.func8, Try.ntmps8
  go_wp2_with fail
  refine HC.out.mono ?_
  rintro e w1 ⟨rfl, hb1⟩
  have HB1 := Lib.hid (HA.out.trans (hb1.mono HA.out.size))
  clear hb1 hl
  go_wp2
  go_ret2
  exact ⟨rfl, HB1.out⟩
/-- two slices of equal numbers are told equal -/
theorem equal_is {w : World} {v v' : Value} {xs : List Int} (h : At (Value.int .i64) 0 w v xs) (h' : At (Value.int .i64) 0 w v' xs) : Calls Try.prog 14 #[v, v'] w fun e w' => e = .returned (.bool true) ∧ Below w.heap.size w w' := by
  obtain ⟨a, cap, rfl, hl, hcap, h⟩ := h
  obtain ⟨a', cap', rfl, hl', hcap', h'⟩ := h'
  obtain ⟨n, hn⟩ : ∃ n, xs.length = n := ⟨_, rfl⟩
  have hn63 : n ≤ 9223372036854775807 := by rw [← hn]; unfold maxLen at hcap; omega
  have HL : Hid (∀ i, i < n → ∃ bl off, a = some ⟨bl, off, none⟩ ∧ bl < w.heap.size ∧ w.cell? ⟨bl, off + i, none⟩ = some (.int .i64 (xs.getD i 0))) := Lib.hid (fun i hi => by
    rcases h with h | ⟨bl, off, h1, h2, h3⟩
    · rw [h] at hn; simp at hn; omega
    · exact ⟨bl, off, h1, h2, h3 i (by omega)⟩)
  have HL' : Hid (∀ i, i < n → ∃ bl off, a' = some ⟨bl, off, none⟩ ∧ bl < w.heap.size ∧ w.cell? ⟨bl, off + i, none⟩ = some (.int .i64 (xs.getD i 0))) := Lib.hid (fun i hi => by
    rcases h' with h | ⟨bl, off, h1, h2, h3⟩
    · rw [h] at hn; simp at hn; omega
    · exact ⟨bl, off, h1, h2, h3 i (by omega)⟩)
  rw [hn]
  clear h h' hl hl' hcap hcap' hn
  go_enter Try.func14, Try.ntmps14
  go_wp2
  go_loopw [13] (fun iv wr => ∃ k : Nat, k ≤ n ∧ iv = .int .i64 k ∧ Hid (Below w.heap.size w wr)) (fun iv _ => n - (intOf iv).toNat)
  case atStart => exact ⟨0, by omega, rfl, Below.refl _ _⟩
  case round =>
    obtain ⟨k, hk, rfl, HB⟩ := hrel
    by_cases hlt : k < n
    · obtain ⟨bl, off, rfl, hbl, hc⟩ := HL.out k hlt
      obtain ⟨bl', off', rfl, hbl', hc'⟩ := HL'.out k hlt
      have g := (HB.out.cell (p := ⟨bl, off + k, none⟩) hbl).trans hc
      have g' := (HB.out.cell (p := ⟨bl', off' + k, none⟩) hbl').trans hc'
      generalize xs.getD k 0 = x at *
      have hxx : (x != x) = false := by simp
      have hki : (k : Int) < n := by omega
      clear hc hc'
      go_wp2
      go_quiet (fail)
      go_wp2
      go_roundw
      case rel => exact ⟨k + 1, by omega, by go_num, below_drewN HB.out _⟩
      case measure => simp [intOf]; omega
    · obtain rfl : k = n := by omega
      go_wp2
      go_ret
      exact ⟨rfl, HB.out⟩
set_option maxRecDepth 100000 in
set_option maxHeartbeats 400000 in
theorem same_is {w : World} {m m' : Value} {c : C} (h : At (Value.int .i64) 0 w m c.xs) (h' : At (Value.int .i64) 0 w m' c.xs) : Calls Try.prog 7 #[.agg (cellsC c m), .agg (cellsC c m')] w fun e w' => e = .returned (.bool true) ∧ Below w.heap.size w w' := by
  have HA := Lib.hid (Go.Joins.below_alloc2 w (.cells (cellsC c m) 24) (.cells (cellsC c m') 24))
  have HE := Lib.hid (equal_is (h.keep HA.out) (h'.keep HA.out))
  have R1 := Lib.hid ((row_new w 24 (cellsC c m)).alloc (.cells (cellsC c m') 24))
  have R2 := Lib.hid (row_new (w.alloc (.cells (cellsC c m) 24)) 24 (cellsC c m'))
  rw [World.size_alloc] at R2
  have F : ∀ (w1 : World) (b : Nat) (m : Value), Row w1 b 24 (cellsC c m) → w1.cell? ⟨b, 0, none⟩ = some (.int .i64 c.user) ∧ w1.cell? ⟨b, 1, none⟩ = some (.int .i64 c.group) ∧ w1.cell? ⟨b, 2, none⟩ = some m ∧ w1.cell? ⟨b, 3, none⟩ = some (.int .i64 c.caps) ∧ w1.cell? ⟨b, 4, none⟩ = some (.int .i64 c.level) ∧ w1.cell? ⟨b, 5, none⟩ = some (.int .i64 c.kind) := fun w1 b m h => ⟨h.cell 0, h.cell 1, h.cell 2, h.cell 3, h.cell 4, h.cell 5⟩
  obtain ⟨p0, p1, p2, p3, p4, p5⟩ := F _ _ _ R1.out
  obtain ⟨q0, q1, q2, q3, q4, q5⟩ := F _ _ _ R2.out
  have HF := Lib.hid F
  obtain ⟨a, cap, rfl, -, -, -⟩ := h
  obtain ⟨a', cap', rfl, -, -, -⟩ := h'
  clear F
  go_enter Try.func7, Try.ntmps7
  go_wp2_with fail
  refine HE.out.mono ?_
  rintro e w1 ⟨rfl, hb1⟩
  clear p0 p1 p2 p3 p4 p5 q0 q1 q2 q3 q4 q5
  obtain ⟨p0, p1, p2, p3, p4, p5⟩ := HF.out _ _ _ (R1.out.keep hb1)
  obtain ⟨q0, q1, q2, q3, q4, q5⟩ := HF.out _ _ _ (R2.out.keep hb1)
  have HB1 := Lib.hid (HA.out.trans (hb1.mono HA.out.size))
  clear hb1
  go_wp2
  go_ret
  exact ⟨rfl, HB1.out⟩
end Go.Proofs.Ytjkephmfpoekgaa.CredLaw
