/- slices.Equal on lists of ints; the law's own small tree. -/
import Derived.Test.YtjkephmfpoekgaaDoorStarts
namespace Go.Proofs.YtjkephmfpoekgaaDoor.PathLaw
open Go.RowKit Go.Proofs.YtjkephmfpoekgaaDoor.CredLaw
set_option linter.unusedVariables false
set_option linter.unusedSimpArgs false
theorem eq_ints {w : World} {v v' : Value} {xs ys : List Int} (h : At (Value.int .i64) 0 w v xs) (h' : At (Value.int .i64) 0 w v' ys) : Calls Tryd.prog 8 #[v, v'] w fun e w' => e = .returned (.bool (xs == ys)) ∧ ∃ q, w' = w.drewN q := by
  obtain ⟨a, cap, rfl, h1, h2, h3⟩ := h
  obtain ⟨a', cap', rfl, h1', h2', h3'⟩ := h'
  have b1 : xs.length ≤ 9223372036854775807 := by unfold maxLen at h2; omega
  have b2 : ys.length ≤ 9223372036854775807 := by unfold maxLen at h2'; omega
  rcases h3 with rfl | ⟨b, off, rfl, hlt, hc⟩
  · refine (Tryd.slices_Equal_int_empty a a' cap ys.length cap' w b2).mono fun e w' ⟨he, hw⟩ => ⟨?_, 0, by rw [hw]; rfl⟩
    rw [he]
    cases ys <;> rfl
  · rcases h3' with rfl | ⟨b', off', rfl, hlt', hc'⟩
    · cases xs with
      | nil => exact (Tryd.slices_Equal_int_empty (some ⟨b, off, none⟩) a' cap 0 cap' w (by decide)).mono fun e w' ⟨he, hw⟩ => ⟨by rw [he]; rfl, 0, by rw [hw]; rfl⟩
      | cons x xs => exact (Tryd.slices_Equal_int_lens (some ⟨b, off, none⟩) a' (x :: xs).length cap 0 cap' w (by simp)).mono fun e w' ⟨he, hw⟩ => ⟨by rw [he]; rfl, 0, by rw [hw]; rfl⟩
    · refine (Tryd.slices_Equal_int b off xs.length cap b' off' ys.length cap' xs ys w (Nat.le_refl _) (Nat.le_refl _) b1 b2 hc hc').mono fun e w' ⟨he, hw⟩ => ⟨?_, hw⟩
      rw [he, List.take_length, List.take_length]
def T0 : List Nd := [⟨⟨2, 511, 0, 0, 0, 0⟩, [(⟨#[97]⟩, 2)], ⟨#[]⟩⟩, ⟨⟨2, 511, 0, 0, 0, 0⟩, [], ⟨#[]⟩⟩]
def c0 : C := ⟨1, 0, [], 0, 0, 0⟩
theorem way0 : wayT (fsT T0) c0 true [1] [97] = (0, [1, 2]) := by
  have h1 : startT c0 [1] [97] = (0, [1], [mk [97]]) := by kernel_rfl
  have h2 : stepT (fsT T0) c0 true 8 [1] (mk [97]) [] = .on 8 [1, 2] [] := by kernel_rfl
  have h3 : walkT (fsT T0) c0 true 8 [1] [mk [97]] = (0, [1, 2], 8) := by
    rw [walkT_cons, h2]
    show walkT (fsT T0) c0 true 8 [1, 2] [] = _
    rw [walkT_nil]
  unfold wayT
  rw [h1]
  dsimp only
  rw [h3]
  rfl
def nodes0 (b : Nat) : Array Value := #[.int .i64 2, .int .i64 511, .int .i64 0, .int .i64 0, .int .i64 0, .int .i64 0, .slice (some ⟨b, 0, none⟩) 1 1, .string ⟨#[]⟩, .int .i64 2, .int .i64 511, .int .i64 0, .int .i64 0, .int .i64 0, .int .i64 0, .slice none 0 0, .string ⟨#[]⟩]
theorem tree0 {W : World} {b0 b1 : Nat} (h0 : W.heap[b0]? = some (.cells #[.string ⟨#[97]⟩, .int .i64 2] 42 (0, 0))) (h1 : W.heap[b1]? = some (.cells (nodes0 b0) 45 (0, 0))) : TreeS W (.agg #[.slice (some ⟨b1, 0, none⟩) 2 2]) T0 := by
  have l0 : b0 < W.heap.size := (Array.getElem?_eq_some_iff.1 h0).1
  have l1 : b1 < W.heap.size := (Array.getElem?_eq_some_iff.1 h1).1
  have k0 : ∀ j u, (#[Value.string ⟨#[97]⟩, .int .i64 2] : Array Value)[j]? = some u → W.cell? ⟨b0, j, none⟩ = some u := fun j u hj => by rw [cell_of_row _ _ _ _ _ _ h0]; exact hj
  have k1 : ∀ j u, (nodes0 b0)[j]? = some u → W.cell? ⟨b1, j, none⟩ = some u := fun j u hj => by rw [cell_of_row _ _ _ _ _ _ h1]; exact hj
  refine ⟨_, 2, rfl, by decide, by unfold maxLen; omega, .inr ⟨b1, 0, rfl, fun i hi => ?_⟩⟩
  have hi2 : i = 0 ∨ i = 1 := by have : T0.length = 2 := rfl; omega
  rcases hi2 with rfl | rfl
  · refine ⟨l1, k1 0 _ rfl, k1 1 _ rfl, k1 2 _ rfl, k1 3 _ rfl, k1 4 _ rfl, k1 5 _ rfl, ⟨_, k1 6 _ rfl, ⟨_, 1, rfl, by decide, by unfold maxLen; omega, .inr ⟨b0, 0, rfl, l0, fun j hj => ?_⟩⟩⟩, k1 7 _ rfl⟩
    have hj0 : j = 0 := by have : (T0.getD 0 zeroNd).names.length = 1 := rfl; omega
    subst hj0
    exact ⟨k0 0 _ rfl, k0 1 _ rfl⟩
  · exact ⟨l1, k1 8 _ rfl, k1 9 _ rfl, k1 10 _ rfl, k1 11 _ rfl, k1 12 _ rfl, k1 13 _ rfl, ⟨_, k1 14 _ rfl, ⟨_, 0, rfl, Nat.le_refl _, Nat.zero_le _, .inl rfl⟩⟩, k1 15 _ rfl⟩
theorem blk {w : World} {k : Nat} {x : Obj} (h : w.heap[k]? = some x) (o : Obj) : (w.alloc o).heap[k]? = some x := ((Go.Joins.below_alloc1 w o).block k (Array.getElem?_eq_some_iff.1 h).1).trans h
set_option maxRecDepth 100000 in
set_option maxHeartbeats 400000 in
theorem paths_is {w : World} {m : Int} (hm : w.cell? ⟨0, 0, none⟩ = some (.int .i64 m)) : Calls Tryd.prog 6 #[] w fun e w' => e = .returned (.bool true) ∧ Below w.heap.size w w' := by
  obtain ⟨W, hW⟩ : ∃ W, W = ((((w.alloc (.cells #[.string ⟨#[97]⟩, .int .i64 2] 42)).alloc (.cells (nodes0 w.heap.size) 45)).alloc (.cells #[.slice (some ⟨w.heap.size + 1, 0, none⟩) 2 2] 24)).alloc (.cells #[.int .i64 1] 3)) := ⟨_, rfl⟩
  have hb : Below w.heap.size w W := by
    rw [hW]
    exact ((((Below.refl _ _).alloc (Nat.le_refl _) _).alloc (by simp) _).alloc (by simp; omega) _).alloc (by simp; omega) _
  have hsz : W.heap.size = w.heap.size + 4 := by rw [hW]; simp
  have h0 : W.heap[w.heap.size]? = some (.cells #[.string ⟨#[97]⟩, .int .i64 2] 42 (0, 0)) := by
    rw [hW]
    exact blk (blk (blk (heap_alloc_new w _) _) _) _
  have h1 : W.heap[w.heap.size + 1]? = some (.cells (nodes0 w.heap.size) 45 (0, 0)) := by
    have := heap_alloc_new (w.alloc (.cells #[.string ⟨#[97]⟩, .int .i64 2] 42)) (.cells (nodes0 w.heap.size) 45)
    rw [World.size_alloc] at this
    rw [hW]
    exact blk (blk this _) _
  have h3 : W.cell? ⟨w.heap.size + 1 + 1 + 1, 0, none⟩ = some (.int .i64 1) := by
    have : W.heap[w.heap.size + 1 + 1 + 1]? = some (.cells #[.int .i64 1] 3 (0, 0)) := by
      have := heap_alloc_new (((w.alloc (.cells #[.string ⟨#[97]⟩, .int .i64 2] 42)).alloc (.cells (nodes0 w.heap.size) 45)).alloc (.cells #[.slice (some ⟨w.heap.size + 1, 0, none⟩) 2 2] 24)) (.cells #[.int .i64 1] 3)
      rw [World.size_alloc, World.size_alloc, World.size_alloc] at this
      rw [hW]
      exact this
    rw [cell_of_row _ _ _ _ _ _ this]; rfl
  have hcw : At (Value.int .i64) 0 W (.slice (some ⟨w.heap.size + 1 + 1 + 1, 0, none⟩) 1 1) [1] := ⟨_, 1, rfl, Nat.le_refl _, by unfold maxLen; omega, .inr ⟨_, 0, rfl, by omega, fun i hi => by
    have : i = 0 := by simp at hi; exact hi
    subst this
    exact h3⟩⟩
  have hmW := (hb.cell (p := ⟨0, 0, none⟩) (World.block_lt_of_cell? w _ hm)).trans hm
  have hway := way_is (c := c0) (mv := .slice none 0 0) (s := ⟨#[97]⟩) true (tree0 h0 h1) ⟨none, 0, rfl, Nat.le_refl _, Nat.zero_le _, .inl rfl⟩ hcw (by decide) hmW
  have hw0 : wayT (fsT T0) c0 true [1] (⟨#[97]⟩ : ByteArray).data.toList = (0, [1, 2]) := way0
  unfold WayPost at hway
  rw [hw0] at hway
  dsimp only at hway
  have HWAY := Lib.hid hway
  have HB := Lib.hid hb
  have HW := Lib.hid hW
  clear hm h0 h1 h3 hcw hmW hway hw0 hb hsz
  go_enter Tryd.func6, Tryd.ntmps6
  go_wp2_with fail
  rw [show (((((w.alloc (.cells #[.string ⟨#[97]⟩, .int .i64 2] 42)).alloc (.cells #[.int .i64 2, .int .i64 511, .int .i64 0, .int .i64 0, .int .i64 0, .int .i64 0, .slice (some ⟨w.heap.size, 0, none⟩) 1 1, .string ⟨#[]⟩, .int .i64 2, .int .i64 511, .int .i64 0, .int .i64 0, .int .i64 0, .int .i64 0, .slice none 0 0, .string ⟨#[]⟩] 45)).alloc (.cells #[.slice (some ⟨w.heap.size + 1, 0, none⟩) 2 2] 24)).alloc (.cells #[.int .i64 1] 3)) : World) = W from HW.out.symm]
  refine HWAY.out.mono ?_
  rintro e1 w1 ⟨v1, rfl, hb1, ho1⟩
  have HB1 := Lib.hid (HB.out.trans (hb1.mono HB.out.size))
  have hbA := Go.Joins.below_alloc1 w1 (.cells #[.int .i64 1, .int .i64 2] 3)
  have heq := eq_ints (w := w1.alloc (.cells #[.int .i64 1, .int .i64 2] 3)) (StkO.at (show StkO _ _ v1 [1, 2] from owns_keep ho1 hbA)) (at_new (f := Value.int .i64) (d := 0) w1 [1, 2] 3 (by decide))
  obtain ⟨a1, k1, rfl⟩ := own_form ho1
  have HEQ := Lib.hid heq
  have HBA := Lib.hid (HB1.out.trans (hbA.mono HB1.out.size))
  clear hb1 ho1 hbA heq HWAY
  go_wp2_with (go_at_call 8; refine HEQ.out.mono ?_; rintro e2 w2 ⟨rfl, q, rfl⟩)
  go_ret
  exact ⟨rfl, below_drewN HBA.out q⟩
end Go.Proofs.YtjkephmfpoekgaaDoor.PathLaw
