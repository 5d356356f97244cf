/- The walks of ringkeep5.LensOf, slices.Reverse. -/
import Derived.Test.YtopadiofanaaiaaTurnLens
namespace Go.Proofs.Ytopadiofanaaiaa.TurnLaw
open Go.RowKit
set_option linter.unusedVariables false

def LensPost (w : World) (e : Ending) (w' : World) : Prop := ∃ v' l, e = .returned v' ∧ NatRow w' w.heap.size v' l ∧ Below w.heap.size w w' ∧ good4 l ∧ ∀ x ∈ l, x ≤ 4
set_option maxRecDepth 100000 in
set_option maxHeartbeats 1000000 in
theorem lens_of {w : World} {v : Value} {xs : List Int} (hm : At (Value.int .i64) 0 w v xs) : Calls Try.prog 12 #[v] w (LensPost w) := by
  obtain ⟨a, cap, rfl, hl, hcap, hm⟩ := hm
  obtain ⟨n, hn⟩ : ∃ n, n = xs.length := ⟨_, rfl⟩
  rw [← hn] at hl ⊢
  have HN := Lib.hid hn
  have HM := Lib.hid hm
  clear hm hn
  obtain ⟨i0, hi0, hz0, hz1, hz2⟩ := info_parts info3
  unfold maxLen at hcap
  rcases (show ((n : Int) < 4 ∧ ¬ (4 : Int) < n ∧ (n : Int) ≤ 4) ∨ (n = 4) ∨ ((4 : Int) < n ∧ ¬ (n : Int) < 4 ∧ (4 : Int) ≤ n) by omega) with ⟨h1, h2, h3⟩ | rfl | ⟨h1, h2, h3⟩
  · go_enter Try.func12, Try.ntmps12
    go_wp2
    obtain ⟨i0, hi0, hz0, hz1, hz2⟩ := info_parts info3
    go_loopw [3, 4, 14] (fun ov lv iv wr => ∃ (k left : Nat) (l : List Nat), k ≤ n ∧ lv = .int .i64 left ∧ iv = .int .i64 k ∧ NatRow wr w.heap.size ov l ∧ Hid (Below w.heap.size w wr) ∧ l.length = k ∧ l.sum + left = 12 ∧ Hid (∀ x ∈ l, x ≤ 4)) (fun _ _ iv _ => n - (intOf iv).toNat)
    case atStart => exact ⟨0, 12, [], Nat.zero_le _, rfl, rfl, World.ownsRow_nil _ _ _ _, Below.refl _ _, rfl, rfl, fun x hx => absurd hx List.not_mem_nil⟩
    case round =>
      obtain ⟨k, left, l, hk, rfl, rfl, hO, HBL, hlk, hsum, HX⟩ := hrel
      by_cases hlt : k < n
      · rcases HM.out with h0 | ⟨b, off, rfl, hb, hcell⟩
        · have := HN.out; rw [h0] at this; simp at this <;> omega
        have hkn : k < xs.length := by rw [← HN.out]; omega
        have g := (HBL.out.cell (p := ⟨b, off + k, none⟩) hb).trans (hcell k hkn)
        obtain ⟨x, hx⟩ : ∃ x, x = xs.getD k 0 := ⟨_, rfl⟩
        rw [← hx] at g
        obtain ⟨z, hz⟩ : ∃ z : Nat, x % 5 = z := ⟨(x % 5).toNat, by omega⟩
        have hz4 : (z : Int) ≤ 4 := by omega
        have HZ := Lib.hid hz
        have hki : (k : Int) < n := by omega
        have hleft : (left : Int) ≤ 12 := by omega
        clear hcell hx hz
        rcases (show ((left : Int) < z ∧ ¬ (z : Int) < left ∧ (left : Int) ≤ z) ∨ ((z : Int) < left ∧ ¬ (left : Int) < z ∧ ¬ (left : Int) ≤ z) ∨ (left = z) by omega) with hq | hq | rfl
        · obtain ⟨q1, q2, q3⟩ := hq
          go_wp2_with fail
          refine (within_any x 5 _ (by decide) (by decide)).mono ?_
          rintro e w3 ⟨rfl, rfl⟩
          rw [HZ.out]
          go_wp2_with (at_builtin; go_loud (refine wpList_append_fresh _ rfl (.tmp 22) (.tmp 24) 22 rfl w.heap.size 3 i0 (.int .i64 0) 1 8 Try.underlying22 hi0 hz0 hz1 hz2 rfl (by decide) _ _ _ rfl (hO.alloc _) ⟨_, 0, none⟩ 1 1 [.int .i64 left] rfl rfl (cells1_new _ _ _) one1 (by unfold maxLen; omega) (by omega) (by have := HBL.out.size; simp; omega) ?_))
          intro v7 w7 own7 grow7 fresh7
          have hb7 : Below w.heap.size w w7 := (HBL.out.alloc HBL.out.size _).grown grow7 (by have := HBL.out.size; simp; omega) (fun g' hg' => (hO.lt g' hg').1)
          have hO7 : NatRow w7 w.heap.size v7 (l ++ [left]) := by
            have : w7.ownsRow w.heap.size 3 1 v7 (l.length + 1) (l.map natV ++ [.int .i64 left]) := by simpa [hlk] using own7
            unfold NatRow
            simpa [natV, hlk] using this
          clear own7 grow7 fresh7
          go_wp2
          go_roundw
          case rel =>
            refine ⟨k + 1, left - left, l ++ [left], by omega, by go_num, by go_num, hO7, hb7, by simp [hlk], by simp; omega, fun y hy => ?_⟩
            rcases List.mem_append.1 hy with h | h
            · exact HX.out y h
            · rw [List.mem_singleton] at h; omega
          case measure => simp [intOf]; omega
        · obtain ⟨q1, q2, q3⟩ := hq
          go_wp2_with fail
          refine (within_any x 5 _ (by decide) (by decide)).mono ?_
          rintro e w3 ⟨rfl, rfl⟩
          rw [HZ.out]
          go_wp2_with (at_builtin; go_loud (refine wpList_append_fresh _ rfl (.tmp 22) (.tmp 24) 22 rfl w.heap.size 3 i0 (.int .i64 0) 1 8 Try.underlying22 hi0 hz0 hz1 hz2 rfl (by decide) _ _ _ rfl (hO.alloc _) ⟨_, 0, none⟩ 1 1 [.int .i64 z] rfl rfl (cells1_new _ _ _) one1 (by unfold maxLen; omega) (by omega) (by have := HBL.out.size; simp; omega) ?_))
          intro v7 w7 own7 grow7 fresh7
          have hb7 : Below w.heap.size w w7 := (HBL.out.alloc HBL.out.size _).grown grow7 (by have := HBL.out.size; simp; omega) (fun g' hg' => (hO.lt g' hg').1)
          have hO7 : NatRow w7 w.heap.size v7 (l ++ [z]) := by
            have : w7.ownsRow w.heap.size 3 1 v7 (l.length + 1) (l.map natV ++ [.int .i64 z]) := by simpa [hlk] using own7
            unfold NatRow
            simpa [natV, hlk] using this
          clear own7 grow7 fresh7
          go_wp2
          go_roundw
          case rel =>
            refine ⟨k + 1, left - z, l ++ [z], by omega, by go_num, by go_num, hO7, hb7, by simp [hlk], by simp; omega, fun y hy => ?_⟩
            rcases List.mem_append.1 hy with h | h
            · exact HX.out y h
            · rw [List.mem_singleton] at h; omega
          case measure => simp [intOf]; omega
        · skip
          go_wp2_with fail
          refine (within_any x 5 _ (by decide) (by decide)).mono ?_
          rintro e w3 ⟨rfl, rfl⟩
          rw [HZ.out]
          go_wp2_with (at_builtin; go_loud (refine wpList_append_fresh _ rfl (.tmp 22) (.tmp 24) 22 rfl w.heap.size 3 i0 (.int .i64 0) 1 8 Try.underlying22 hi0 hz0 hz1 hz2 rfl (by decide) _ _ _ rfl (hO.alloc _) ⟨_, 0, none⟩ 1 1 [.int .i64 left] rfl rfl (cells1_new _ _ _) one1 (by unfold maxLen; omega) (by omega) (by have := HBL.out.size; simp; omega) ?_))
          intro v7 w7 own7 grow7 fresh7
          have hb7 : Below w.heap.size w w7 := (HBL.out.alloc HBL.out.size _).grown grow7 (by have := HBL.out.size; simp; omega) (fun g' hg' => (hO.lt g' hg').1)
          have hO7 : NatRow w7 w.heap.size v7 (l ++ [left]) := by
            have : w7.ownsRow w.heap.size 3 1 v7 (l.length + 1) (l.map natV ++ [.int .i64 left]) := by simpa [hlk] using own7
            unfold NatRow
            simpa [natV, hlk] using this
          clear own7 grow7 fresh7
          go_wp2
          go_roundw
          case rel =>
            refine ⟨k + 1, left - left, l ++ [left], by omega, by go_num, by go_num, hO7, hb7, by simp [hlk], by simp; omega, fun y hy => ?_⟩
            rcases List.mem_append.1 hy with h | h
            · exact HX.out y h
            · rw [List.mem_singleton] at h; omega
          case measure => simp [intOf]; omega
      · obtain rfl : k = n := by omega
        go_wp2
        go_ret
        exact ⟨_, l, rfl, hO, HBL.out, ⟨by omega, by omega⟩, HX.out⟩
  · go_enter Try.func12, Try.ntmps12
    go_wp2
    obtain ⟨i0, hi0, hz0, hz1, hz2⟩ := info_parts info3
    go_loopw [3, 4, 14] (fun ov lv iv wr => ∃ (k left : Nat) (l : List Nat), k ≤ 4 ∧ lv = .int .i64 left ∧ iv = .int .i64 k ∧ NatRow wr w.heap.size ov l ∧ Hid (Below w.heap.size w wr) ∧ l.length = k ∧ l.sum + left = 12 ∧ Hid (∀ x ∈ l, x ≤ 4)) (fun _ _ iv _ => 4 - (intOf iv).toNat)
    case atStart => exact ⟨0, 12, [], Nat.zero_le _, rfl, rfl, World.ownsRow_nil _ _ _ _, Below.refl _ _, rfl, rfl, fun x hx => absurd hx List.not_mem_nil⟩
    case round =>
      obtain ⟨k, left, l, hk, rfl, rfl, hO, HBL, hlk, hsum, HX⟩ := hrel
      by_cases hlt : k < 4
      · rcases HM.out with h0 | ⟨b, off, rfl, hb, hcell⟩
        · have := HN.out; rw [h0] at this; simp at this <;> omega
        have hkn : k < xs.length := by rw [← HN.out]; omega
        have g := (HBL.out.cell (p := ⟨b, off + k, none⟩) hb).trans (hcell k hkn)
        obtain ⟨x, hx⟩ : ∃ x, x = xs.getD k 0 := ⟨_, rfl⟩
        rw [← hx] at g
        obtain ⟨z, hz⟩ : ∃ z : Nat, x % 5 = z := ⟨(x % 5).toNat, by omega⟩
        have hz4 : (z : Int) ≤ 4 := by omega
        have HZ := Lib.hid hz
        have hki : (k : Int) < 4 := by omega
        have hleft : (left : Int) ≤ 12 := by omega
        clear hcell hx hz
        rcases (show ((left : Int) < z ∧ ¬ (z : Int) < left ∧ (left : Int) ≤ z) ∨ ((z : Int) < left ∧ ¬ (left : Int) < z ∧ ¬ (left : Int) ≤ z) ∨ (left = z) by omega) with hq | hq | rfl
        · obtain ⟨q1, q2, q3⟩ := hq
          go_wp2_with fail
          refine (within_any x 5 _ (by decide) (by decide)).mono ?_
          rintro e w3 ⟨rfl, rfl⟩
          rw [HZ.out]
          go_wp2_with (at_builtin; go_loud (refine wpList_append_fresh _ rfl (.tmp 22) (.tmp 24) 22 rfl w.heap.size 3 i0 (.int .i64 0) 1 8 Try.underlying22 hi0 hz0 hz1 hz2 rfl (by decide) _ _ _ rfl (hO.alloc _) ⟨_, 0, none⟩ 1 1 [.int .i64 left] rfl rfl (cells1_new _ _ _) one1 (by unfold maxLen; omega) (by omega) (by have := HBL.out.size; simp; omega) ?_))
          intro v7 w7 own7 grow7 fresh7
          have hb7 : Below w.heap.size w w7 := (HBL.out.alloc HBL.out.size _).grown grow7 (by have := HBL.out.size; simp; omega) (fun g' hg' => (hO.lt g' hg').1)
          have hO7 : NatRow w7 w.heap.size v7 (l ++ [left]) := by
            have : w7.ownsRow w.heap.size 3 1 v7 (l.length + 1) (l.map natV ++ [.int .i64 left]) := by simpa [hlk] using own7
            unfold NatRow
            simpa [natV, hlk] using this
          clear own7 grow7 fresh7
          go_wp2
          go_roundw
          case rel =>
            refine ⟨k + 1, left - left, l ++ [left], by omega, by go_num, by go_num, hO7, hb7, by simp [hlk], by simp; omega, fun y hy => ?_⟩
            rcases List.mem_append.1 hy with h | h
            · exact HX.out y h
            · rw [List.mem_singleton] at h; omega
          case measure => simp [intOf]; omega
        · obtain ⟨q1, q2, q3⟩ := hq
          go_wp2_with fail
          refine (within_any x 5 _ (by decide) (by decide)).mono ?_
          rintro e w3 ⟨rfl, rfl⟩
          rw [HZ.out]
          go_wp2_with (at_builtin; go_loud (refine wpList_append_fresh _ rfl (.tmp 22) (.tmp 24) 22 rfl w.heap.size 3 i0 (.int .i64 0) 1 8 Try.underlying22 hi0 hz0 hz1 hz2 rfl (by decide) _ _ _ rfl (hO.alloc _) ⟨_, 0, none⟩ 1 1 [.int .i64 z] rfl rfl (cells1_new _ _ _) one1 (by unfold maxLen; omega) (by omega) (by have := HBL.out.size; simp; omega) ?_))
          intro v7 w7 own7 grow7 fresh7
          have hb7 : Below w.heap.size w w7 := (HBL.out.alloc HBL.out.size _).grown grow7 (by have := HBL.out.size; simp; omega) (fun g' hg' => (hO.lt g' hg').1)
          have hO7 : NatRow w7 w.heap.size v7 (l ++ [z]) := by
            have : w7.ownsRow w.heap.size 3 1 v7 (l.length + 1) (l.map natV ++ [.int .i64 z]) := by simpa [hlk] using own7
            unfold NatRow
            simpa [natV, hlk] using this
          clear own7 grow7 fresh7
          go_wp2
          go_roundw
          case rel =>
            refine ⟨k + 1, left - z, l ++ [z], by omega, by go_num, by go_num, hO7, hb7, by simp [hlk], by simp; omega, fun y hy => ?_⟩
            rcases List.mem_append.1 hy with h | h
            · exact HX.out y h
            · rw [List.mem_singleton] at h; omega
          case measure => simp [intOf]; omega
        · skip
          go_wp2_with fail
          refine (within_any x 5 _ (by decide) (by decide)).mono ?_
          rintro e w3 ⟨rfl, rfl⟩
          rw [HZ.out]
          go_wp2_with (at_builtin; go_loud (refine wpList_append_fresh _ rfl (.tmp 22) (.tmp 24) 22 rfl w.heap.size 3 i0 (.int .i64 0) 1 8 Try.underlying22 hi0 hz0 hz1 hz2 rfl (by decide) _ _ _ rfl (hO.alloc _) ⟨_, 0, none⟩ 1 1 [.int .i64 left] rfl rfl (cells1_new _ _ _) one1 (by unfold maxLen; omega) (by omega) (by have := HBL.out.size; simp; omega) ?_))
          intro v7 w7 own7 grow7 fresh7
          have hb7 : Below w.heap.size w w7 := (HBL.out.alloc HBL.out.size _).grown grow7 (by have := HBL.out.size; simp; omega) (fun g' hg' => (hO.lt g' hg').1)
          have hO7 : NatRow w7 w.heap.size v7 (l ++ [left]) := by
            have : w7.ownsRow w.heap.size 3 1 v7 (l.length + 1) (l.map natV ++ [.int .i64 left]) := by simpa [hlk] using own7
            unfold NatRow
            simpa [natV, hlk] using this
          clear own7 grow7 fresh7
          go_wp2
          go_roundw
          case rel =>
            refine ⟨k + 1, left - left, l ++ [left], by omega, by go_num, by go_num, hO7, hb7, by simp [hlk], by simp; omega, fun y hy => ?_⟩
            rcases List.mem_append.1 hy with h | h
            · exact HX.out y h
            · rw [List.mem_singleton] at h; omega
          case measure => simp [intOf]; omega
      · have hk4 : k = 4 := by omega
        subst hk4
        go_wp2
        go_ret
        exact ⟨_, l, rfl, hO, HBL.out, ⟨by omega, by omega⟩, HX.out⟩
  · have h4c : (4 : Int) ≤ cap := by omega
    go_enter Try.func12, Try.ntmps12
    go_wp2
    try rw [show (max 4 0 : Int) = 4 from rfl]
    obtain ⟨i0, hi0, hz0, hz1, hz2⟩ := info_parts info3
    go_loopw [3, 4, 14] (fun ov lv iv wr => ∃ (k left : Nat) (l : List Nat), k ≤ 4 ∧ lv = .int .i64 left ∧ iv = .int .i64 k ∧ NatRow wr w.heap.size ov l ∧ Hid (Below w.heap.size w wr) ∧ l.length = k ∧ l.sum + left = 12 ∧ Hid (∀ x ∈ l, x ≤ 4)) (fun _ _ iv _ => 4 - (intOf iv).toNat)
    case atStart => exact ⟨0, 12, [], Nat.zero_le _, rfl, rfl, World.ownsRow_nil _ _ _ _, Below.refl _ _, rfl, rfl, fun x hx => absurd hx List.not_mem_nil⟩
    case round =>
      obtain ⟨k, left, l, hk, rfl, rfl, hO, HBL, hlk, hsum, HX⟩ := hrel
      by_cases hlt : k < 4
      · rcases HM.out with h0 | ⟨b, off, rfl, hb, hcell⟩
        · have := HN.out; rw [h0] at this; simp at this <;> omega
        have hkn : k < xs.length := by rw [← HN.out]; omega
        have g := (HBL.out.cell (p := ⟨b, off + k, none⟩) hb).trans (hcell k hkn)
        obtain ⟨x, hx⟩ : ∃ x, x = xs.getD k 0 := ⟨_, rfl⟩
        rw [← hx] at g
        obtain ⟨z, hz⟩ : ∃ z : Nat, x % 5 = z := ⟨(x % 5).toNat, by omega⟩
        have hz4 : (z : Int) ≤ 4 := by omega
        have HZ := Lib.hid hz
        have hki : (k : Int) < 4 := by omega
        have hleft : (left : Int) ≤ 12 := by omega
        clear hcell hx hz
        rcases (show ((left : Int) < z ∧ ¬ (z : Int) < left ∧ (left : Int) ≤ z) ∨ ((z : Int) < left ∧ ¬ (left : Int) < z ∧ ¬ (left : Int) ≤ z) ∨ (left = z) by omega) with hq | hq | rfl
        · obtain ⟨q1, q2, q3⟩ := hq
          go_wp2_with fail
          refine (within_any x 5 _ (by decide) (by decide)).mono ?_
          rintro e w3 ⟨rfl, rfl⟩
          rw [HZ.out]
          go_wp2_with (at_builtin; go_loud (refine wpList_append_fresh _ rfl (.tmp 22) (.tmp 24) 22 rfl w.heap.size 3 i0 (.int .i64 0) 1 8 Try.underlying22 hi0 hz0 hz1 hz2 rfl (by decide) _ _ _ rfl (hO.alloc _) ⟨_, 0, none⟩ 1 1 [.int .i64 left] rfl rfl (cells1_new _ _ _) one1 (by unfold maxLen; omega) (by omega) (by have := HBL.out.size; simp; omega) ?_))
          intro v7 w7 own7 grow7 fresh7
          have hb7 : Below w.heap.size w w7 := (HBL.out.alloc HBL.out.size _).grown grow7 (by have := HBL.out.size; simp; omega) (fun g' hg' => (hO.lt g' hg').1)
          have hO7 : NatRow w7 w.heap.size v7 (l ++ [left]) := by
            have : w7.ownsRow w.heap.size 3 1 v7 (l.length + 1) (l.map natV ++ [.int .i64 left]) := by simpa [hlk] using own7
            unfold NatRow
            simpa [natV, hlk] using this
          clear own7 grow7 fresh7
          go_wp2
          go_roundw
          case rel =>
            refine ⟨k + 1, left - left, l ++ [left], by omega, by go_num, by go_num, hO7, hb7, by simp [hlk], by simp; omega, fun y hy => ?_⟩
            rcases List.mem_append.1 hy with h | h
            · exact HX.out y h
            · rw [List.mem_singleton] at h; omega
          case measure => simp [intOf]; omega
        · obtain ⟨q1, q2, q3⟩ := hq
          go_wp2_with fail
          refine (within_any x 5 _ (by decide) (by decide)).mono ?_
          rintro e w3 ⟨rfl, rfl⟩
          rw [HZ.out]
          go_wp2_with (at_builtin; go_loud (refine wpList_append_fresh _ rfl (.tmp 22) (.tmp 24) 22 rfl w.heap.size 3 i0 (.int .i64 0) 1 8 Try.underlying22 hi0 hz0 hz1 hz2 rfl (by decide) _ _ _ rfl (hO.alloc _) ⟨_, 0, none⟩ 1 1 [.int .i64 z] rfl rfl (cells1_new _ _ _) one1 (by unfold maxLen; omega) (by omega) (by have := HBL.out.size; simp; omega) ?_))
          intro v7 w7 own7 grow7 fresh7
          have hb7 : Below w.heap.size w w7 := (HBL.out.alloc HBL.out.size _).grown grow7 (by have := HBL.out.size; simp; omega) (fun g' hg' => (hO.lt g' hg').1)
          have hO7 : NatRow w7 w.heap.size v7 (l ++ [z]) := by
            have : w7.ownsRow w.heap.size 3 1 v7 (l.length + 1) (l.map natV ++ [.int .i64 z]) := by simpa [hlk] using own7
            unfold NatRow
            simpa [natV, hlk] using this
          clear own7 grow7 fresh7
          go_wp2
          go_roundw
          case rel =>
            refine ⟨k + 1, left - z, l ++ [z], by omega, by go_num, by go_num, hO7, hb7, by simp [hlk], by simp; omega, fun y hy => ?_⟩
            rcases List.mem_append.1 hy with h | h
            · exact HX.out y h
            · rw [List.mem_singleton] at h; omega
          case measure => simp [intOf]; omega
        · skip
          go_wp2_with fail
          refine (within_any x 5 _ (by decide) (by decide)).mono ?_
          rintro e w3 ⟨rfl, rfl⟩
          rw [HZ.out]
          go_wp2_with (at_builtin; go_loud (refine wpList_append_fresh _ rfl (.tmp 22) (.tmp 24) 22 rfl w.heap.size 3 i0 (.int .i64 0) 1 8 Try.underlying22 hi0 hz0 hz1 hz2 rfl (by decide) _ _ _ rfl (hO.alloc _) ⟨_, 0, none⟩ 1 1 [.int .i64 left] rfl rfl (cells1_new _ _ _) one1 (by unfold maxLen; omega) (by omega) (by have := HBL.out.size; simp; omega) ?_))
          intro v7 w7 own7 grow7 fresh7
          have hb7 : Below w.heap.size w w7 := (HBL.out.alloc HBL.out.size _).grown grow7 (by have := HBL.out.size; simp; omega) (fun g' hg' => (hO.lt g' hg').1)
          have hO7 : NatRow w7 w.heap.size v7 (l ++ [left]) := by
            have : w7.ownsRow w.heap.size 3 1 v7 (l.length + 1) (l.map natV ++ [.int .i64 left]) := by simpa [hlk] using own7
            unfold NatRow
            simpa [natV, hlk] using this
          clear own7 grow7 fresh7
          go_wp2
          go_roundw
          case rel =>
            refine ⟨k + 1, left - left, l ++ [left], by omega, by go_num, by go_num, hO7, hb7, by simp [hlk], by simp; omega, fun y hy => ?_⟩
            rcases List.mem_append.1 hy with h | h
            · exact HX.out y h
            · rw [List.mem_singleton] at h; omega
          case measure => simp [intOf]; omega
      · have hk4 : k = 4 := by omega
        subst hk4
        go_wp2
        go_ret
        exact ⟨_, l, rfl, hO, HBL.out, ⟨by omega, by omega⟩, HX.out⟩
end Go.Proofs.Ytopadiofanaaiaa.TurnLaw
