/- What Format writes: sectors of a list of bytes; a slice behind which zeros are appended. -/
import Derived.Test.YtdkbmkapnapahaaGreatDoorDiskNew
import Derived.Test.YtdkbmkapnapahaaGreatDoorMnt
import Derived.Lib.AppendZerosOnto
namespace Go.Proofs.YtdkbmkapnapahaaGreatDoor
open Go.RowKit
set_option linter.unusedVariables false
set_option linter.unusedSimpArgs false
theorem putS_get {f l : List Int} {k : Nat} (hf : f.length = 256 * 64) (hk : k < 256) (hl : l.length = 64) (j : Nat) : (putS f k l).getD j 0 = if k * 64 ≤ j ∧ j < k * 64 + 64 then l.getD (j - k * 64) 0 else f.getD j 0 := by
  unfold putS splice
  have h1 : (f.take (k * 64)).length = k * 64 := by rw [List.length_take]; omega
  simp only [List.getD_eq_getElem?_getD]
  by_cases h : j < k * 64
  · rw [if_neg (by omega), List.getElem?_append_left (by omega), List.getElem?_take, if_pos h]
  · rw [List.getElem?_append_right (by omega), h1]
    by_cases h2 : j < k * 64 + 64
    · rw [if_pos (by omega), List.getElem?_append_left (by omega)]
    · rw [if_neg (by omega), List.getElem?_append_right (by omega), List.getElem?_drop, hl]
      congr 2
      omega
theorem sect_ext {f : List Int} {k : Nat} {l : List Int} (hf : f.length = 256 * 64) (hk : k < 256) (hl : l.length = 64) (h : ∀ j, j < 64 → f.getD (k * 64 + j) 0 = l.getD j 0) : sect f k = l := by
  apply List.ext_getElem
  · rw [sect_len hf hk, hl]
  · intro i h1 h2
    have hi : i < 64 := by rw [hl] at h2; exact h2
    have := h i hi
    rw [← sect_get hi] at this
    simp only [List.getD_eq_getElem?_getD, List.getElem?_eq_getElem h1, List.getElem?_eq_getElem h2, Option.getD_some] at this
    exact this
theorem sect_same {f l : List Int} {k : Nat} (hf : f.length = 256 * 64) (hk : k < 256) (hl : l.length = 64) : sect (putS f k l) k = l :=
  sect_ext (putS_len hf hk hl) hk hl fun j hj => by rw [putS_get hf hk hl, if_pos (by omega), show k * 64 + j - k * 64 = j by omega]
theorem sect_other {f l : List Int} {k i : Nat} (hf : f.length = 256 * 64) (hk : k < 256) (hi : i < 256) (hl : l.length = 64) (h : i ≠ k) : sect (putS f k l) i = sect f i :=
  sect_ext (putS_len hf hk hl) hi (sect_len hf hi) fun j hj => by
    rw [putS_get hf hk hl, sect_get hj]
    split
    · omega
    · rfl
theorem put_zeros (k : Nat) (hk : k < 256) : putS (zeros 16384) k (zeros 64) = zeros 16384 := by
  have hf : (zeros 16384).length = 256 * 64 := zeros_len _
  have hl : (zeros 64).length = 64 := zeros_len _
  apply List.ext_getElem
  · rw [putS_len hf hk hl, hf]
  · intro i h1 h2
    have h := putS_get hf hk hl i
    rw [zeros_get, zeros_get, ite_self] at h
    have e := zeros_get 16384 i
    simp only [List.getD_eq_getElem?_getD, List.getElem?_eq_getElem h1, List.getElem?_eq_getElem h2, Option.getD_some] at h e
    rw [h, e]
/-- what lies on a disk on which nothing is -/
def fmtL : List Int := putS (putS (putS (putS (putS (zeros 16384) 1 (((pkS gF 4).drop 0).take 64)) 2 (((pkS gF 4).drop 64).take 64)) 3 (((pkS gF 4).drop 128).take 64)) 37 (rootL ++ zeros 32)) 0 markL
theorem rootL_len : rootL.length = 32 := rfl
theorem pk_part (o : Nat) (h : o + 64 ≤ 192) : (((pkS gF 4).drop o).take 64).length = 64 := by
  rw [List.length_take, List.length_drop, pkS_len]
  omega
theorem fmt_is : Fmt fmtL ∧ fmtL.length = 256 * 64 := by
  have h0 : (zeros 16384).length = 256 * 64 := zeros_len _
  have l1 := pk_part 0 (by decide)
  have l2 := pk_part 64 (by decide)
  have l3 := pk_part 128 (by decide)
  have lr : (rootL ++ zeros 32).length = 64 := by rw [List.length_append, rootL_len, zeros_len]
  have lm := markL_len
  have h1 := putS_len h0 (k := 1) (by decide) l1
  have h2 := putS_len h1 (k := 2) (by decide) l2
  have h3 := putS_len h2 (k := 3) (by decide) l3
  have h4 := putS_len h3 (k := 37) (by decide) lr
  have h5 := putS_len h4 (k := 0) (by decide) lm
  have oth : ∀ i, i < 256 → i ≠ 0 → i ≠ 1 → i ≠ 2 → i ≠ 3 → i ≠ 37 → sect fmtL i = zeros 64 := fun i hi a0 a1 a2 a3 a4 => by
    unfold fmtL
    rw [sect_other h4 (by decide) hi lm a0, sect_other h3 (by decide) hi lr a4, sect_other h2 (by decide) hi l3 a3, sect_other h1 (by decide) hi l2 a2, sect_other h0 (by decide) hi l1 a1]
    exact sect_ext h0 hi (zeros_len _) fun j hj => by rw [zeros_get, zeros_get]
  have s1 : sect fmtL 1 = ((pkS gF 4).drop 0).take 64 := by
    unfold fmtL
    rw [sect_other h4 (by decide) (by decide) lm (by decide), sect_other h3 (by decide) (by decide) lr (by decide), sect_other h2 (by decide) (by decide) l3 (by decide), sect_other h1 (by decide) (by decide) l2 (by decide), sect_same h0 (by decide) l1]
  have s2 : sect fmtL 2 = ((pkS gF 4).drop 64).take 64 := by
    unfold fmtL
    rw [sect_other h4 (by decide) (by decide) lm (by decide), sect_other h3 (by decide) (by decide) lr (by decide), sect_other h2 (by decide) (by decide) l3 (by decide), sect_same h1 (by decide) l2]
  have s3 : sect fmtL 3 = ((pkS gF 4).drop 128).take 64 := by
    unfold fmtL
    rw [sect_other h4 (by decide) (by decide) lm (by decide), sect_other h3 (by decide) (by decide) lr (by decide), sect_same h2 (by decide) l3]
  have s37 : sect fmtL 37 = rootL ++ zeros 32 := by
    unfold fmtL
    rw [sect_other h4 (by decide) (by decide) lm (by decide), sect_same h3 (by decide) lr]
  refine ⟨⟨?_, oth 4 (by decide) (by decide) (by decide) (by decide) (by decide) (by decide), oth 5 (by decide) (by decide) (by decide) (by decide) (by decide) (by decide), ?_, ?_⟩, h5⟩
  · unfold fmtL
    exact sect_same h4 (by decide) lm
  · show (([] ++ sect fmtL (1 + 0)) ++ sect fmtL (1 + 1)) ++ sect fmtL (1 + 2) = pkS gF 4
    rw [s1, s2, s3, List.nil_append]
    have e1 : ∀ (L : List Int), L.length = 192 → (L.drop 0).take 64 ++ (L.drop 64).take 64 ++ (L.drop 128).take 64 = L := fun L hL => by
      have a1 : (L.drop 128).take 64 = L.drop 128 := List.take_of_length_le (by rw [List.length_drop]; omega)
      have a2 : (L.drop 64).take 64 ++ L.drop 128 = L.drop 64 := by
        have := List.take_append_drop 64 (L.drop 64)
        rw [List.drop_drop] at this
        exact this
      rw [a1, List.append_assoc, a2, List.drop_zero, List.take_append_drop]
    exact e1 _ (pkS_len _ _)
  · intro i h hi hh j hj
    have hs : fmtL.getD ((37 + i) * 64 + (32 * h + j)) 0 = (sect fmtL (37 + i)).getD (32 * h + j) 0 := (sect_get (by omega)).symm
    rw [hs]
    by_cases e : i = 0
    · subst e
      rw [s37]
      unfold nodeB
      have h01 : h = 0 ∨ h = 1 := by omega
      rcases h01 with rfl | rfl
      · rw [if_pos rfl, List.getD_eq_getElem?_getD, List.getElem?_append_left (by rw [rootL_len]; omega), ← List.getD_eq_getElem?_getD, show 32 * 0 + j = j by omega]
      · rw [if_neg (by decide), List.getD_eq_getElem?_getD, List.getElem?_append_right (by rw [rootL_len]; omega), ← List.getD_eq_getElem?_getD, zeros_get, zeros_get]
    · rw [oth (37 + i) (by omega) (by omega) (by omega) (by omega) (by omega) (by omega), zeros_get]
      unfold nodeB
      rw [if_neg (by omega), zeros_get]
def appZ := Builtin.append_ #[31, 3] 31
theorem appZ_eq : Builtin.append_ #[31, 3] 31 = appZ := rfl
/-- zeros behind a slice that is full -/
theorem run_appZ {w : World} {g : Nat} {l : List Int} (h : At (Value.int .u8) 0 w (.slice (some ⟨g, 0, none⟩) 32 32) l) (hl : l.length = 32) : ∃ c w', (appZ #[.slice (some ⟨g, 0, none⟩) 32 32, .int .i64 32]).run Tryz.prog w = .ok (.slice (some ⟨w.heap.size, 0, none⟩) 64 c) w' ∧ At (Value.int .u8) 0 w' (.slice (some ⟨w.heap.size, 0, none⟩) 64 c) (l ++ zeros 32) ∧ Below w.heap.size w w' ∧ w.heap.size < w'.heap.size := by
  obtain ⟨i0, hi, hz0, hz1, hz2⟩ := info_parts info5
  have hw := h.keep (Below.refl _ _).drew
  have hold : (Builtin.firstCells i0.size 32 (.slice (some ⟨g, 0, none⟩) 32 32)).run Tryz.prog w.drew = .ok (l.map u8V).toArray w.drew := by
    rw [hz1]
    exact run_firstCells_some (P := Tryz.prog) (w := w.drew) 1 32 ⟨g, 0, none⟩ 32 32 (l.map u8V) (by simp [hl]) (by
      rcases At.cellB hw with e | ⟨b, o, e, -, hc⟩
      · rw [e] at hl; cases hl
      · injection e with e
        injection e with e1 e2 _
        subst e1
        subst e2
        exact cells_u8 hc)
  have hr := Lib.run_append_grow_zeros (P := Tryz.prog) w 31 3 31 5 i0 (.int .u8 0) .i64 .i64 Tryz.underlying31 Tryz.underlying3 hi hz0 (some ⟨g, 0, none⟩) 32 32 (l.map u8V) hold 32 (by decide) (by rw [hz1]; decide) (by decide) (by decide) (by rw [hz2]; decide) (by rw [hz2]; decide)
  have hge := grownCap_ge w (32 + 32) 32 5
  have hle := grownCap_le_maxLen w (32 + 32) 32 5 (by decide)
  refine ⟨_, _, hr, ⟨some ⟨w.heap.size, 0, none⟩, grownCap w (32 + 32) 32 5, by rw [List.length_append, hl, zeros_len], by rw [List.length_append, hl, zeros_len]; exact hge, hle, .inr ⟨w.heap.size, 0, rfl, by simp, fun i hi => ?_⟩⟩, (Below.refl _ _).drew.alloc (Nat.le_refl _) _, by simp⟩
  have hi64 : i < 64 := by rw [List.length_append, hl, zeros_len] at hi; exact hi
  have hnew := cell_of_row (w.drew.alloc (.cells ((l.map u8V).toArray ++ Builtin.zeroCells (Value.cells (.int .u8 0)) 32 ++ Builtin.zeroCells (Value.cells (.int .u8 0)) (grownCap w (32 + 32) 32 5 - (32 + 32))) 5)) w.heap.size i _ 5 (0, 0) (heap_alloc_new w.drew _)
  rw [Nat.zero_add, hnew]
  have hzc : (Builtin.zeroCells (Value.cells (.int .u8 0)) 32).size = 32 := by simp [Builtin.zeroCells, Value.cells]
  rw [Array.getElem?_append_left (by simp [hl, hzc]; exact hi64)]
  by_cases h32 : i < 32
  · rw [Array.getElem?_append_left (by simp [hl]; exact h32)]
    have e : (l ++ zeros 32).getD i 0 = l.getD i 0 := by
      rw [List.getD_eq_getElem?_getD, List.getElem?_append_left (by rw [hl]; exact h32), ← List.getD_eq_getElem?_getD]
    rw [e]
    simp [List.getD, hl, h32]
  · rw [Array.getElem?_append_right (by simp [hl]; omega)]
    have e : (l ++ zeros 32).getD i 0 = 0 := by
      rw [List.getD_eq_getElem?_getD, List.getElem?_append_right (by rw [hl]; omega), ← List.getD_eq_getElem?_getD, zeros_get]
    rw [e]
    have h31 : i - 32 < 32 := by omega
    simp [Builtin.zeroCells, Value.cells, hl, h31, Nat.mod_one]
end Go.Proofs.YtdkbmkapnapahaaGreatDoor
