/- What the law EdgeText needs beside the walk: a text without zeros, its bytes with a zero behind them, and that they are read back. -/
import Derived.Test.YtopadiofanaaiaaDoorSpaceMap6
import Derived.Test.YtopadiofanaaiaaDoorShelf
import Derived.ArgAppend
import Derived.Lib.ConvBytes
namespace Go.Proofs.YtopadiofanaaiaaDoor
open Go.RowKit Go.Maps
set_option linter.unusedVariables false
set_option linter.unusedSimpArgs false
/-- zeros turned to dots -/
def dots (s : List UInt8) : List UInt8 := s.map fun c => if c = 0 then 46 else c
theorem dots_miss {s : List UInt8} (h : Lib.index s [0] = -1) : dots s = s := by
  induction s with
  | nil => rfl
  | cons c r ih =>
    unfold Lib.index at h
    by_cases h47 : c = 0
    · subst h47; simp [List.isPrefixOf] at h
    · have hp : List.isPrefixOf [0] (c :: r) = false := by simp [List.isPrefixOf, Ne.symm h47]
      rw [hp] at h
      have hr : Lib.index r [0] = -1 := by
        by_cases hm : (Lib.index r [0] == -1) = true
        · exact beq_iff_eq.1 hm
        · rw [if_neg hm] at h
          have := Lib.index_ge r [0]
          simp at h
          omega
      have := ih hr
      unfold dots at this ⊢
      rw [List.map_cons, if_neg h47, this]
theorem dots_hit : ∀ {s : List UInt8} {i : Nat}, Lib.index s [0] = i → dots s = s.take i ++ [46] ++ dots (s.drop (i + 1)) ∧ i < s.length
  | [], i, h => by simp [Lib.index] at h
  | c :: r, i, h => by
    unfold Lib.index at h
    by_cases h47 : c = 0
    · subst h47
      simp [List.isPrefixOf] at h
      obtain rfl : i = 0 := by omega
      exact ⟨by simp [dots], by simp⟩
    · have hp : List.isPrefixOf [0] (c :: r) = false := by simp [List.isPrefixOf, Ne.symm h47]
      rw [hp] at h
      by_cases hm : (Lib.index r [0] == -1) = true
      · rw [if_neg (by decide), if_pos hm] at h; omega
      · rw [if_neg (by decide), if_neg hm] at h
        have hge := Lib.index_ge r [0]
        have hne : Lib.index r [0] ≠ -1 := fun e => hm (beq_iff_eq.2 e)
        obtain ⟨j, rfl⟩ : ∃ j, i = j + 1 := ⟨i - 1, by omega⟩
        obtain ⟨h1, h2⟩ := dots_hit (s := r) (i := j) (by omega)
        refine ⟨?_, by simp; omega⟩
        show (if c = 0 then 46 else c) :: dots r = _
        rw [if_neg h47, h1]
        rfl
theorem replaceK_dots : ∀ (n : Nat) (s : List UInt8), s.length ≤ n → Lib.replaceK [0] [46] (Lib.count s [0]) s = dots s
  | n, s, hn => by
    by_cases h1 : Lib.index s [0] = -1
    · rw [Lib.count_miss h1, dots_miss h1]; rfl
    · have hge := Lib.index_ge s [0]
      obtain ⟨i, hi⟩ : ∃ i : Nat, Lib.index s [0] = i := ⟨(Lib.index s [0]).toNat, by omega⟩
      obtain ⟨h2, h3⟩ := dots_hit hi
      rw [Lib.count_hit (by simp) hi, Nat.add_comm, Lib.replaceK_hit _ _ _ _ _ hi, h2]
      cases n with
      | zero => omega
      | succ n =>
        have := replaceK_dots n (s.drop (i + 1)) (by simp; omega)
        simp only [List.length_cons, List.length_nil, Nat.zero_add]
        rw [this]
theorem replaceAll_dots (s : List UInt8) : Lib.replaceAll s [0] [46] = dots s := by
  unfold Lib.replaceAll Lib.replace Lib.replaceNum
  rw [if_neg (by decide), if_pos (.inl (by decide))]
  exact replaceK_dots _ _ (Nat.le_refl _)
theorem dots_ne (s : List UInt8) : ∀ c ∈ dots s, c ≠ 0 := by
  intro c hc
  obtain ⟨x, _, rfl⟩ := List.mem_map.1 hc
  by_cases h : x = 0
  · rw [if_pos h]; decide
  · rw [if_neg h]; exact h
theorem dots_len (s : List UInt8) : (dots s).length = s.length := by simp [dots]
/-- the string behind ReplaceAll -/
def dotsB (s : ByteArray) : ByteArray := ⟨(dots s.data.toList).toArray⟩
theorem dotsB_size (s : ByteArray) : (dotsB s).size = s.size := by
  show (dots s.data.toList).toArray.size = s.data.size
  simp [dots_len]
theorem dots_is (s : ByteArray) (m : Int) (w : World) (hs : s.size ≤ 1048576) (hm : w.cell? ⟨0, 0, none⟩ = some (.int .i64 m)) : Calls Tryd.prog 8 #[.string s, .string ⟨#[0]⟩, .string ⟨#[46]⟩] w fun e w' => e = .returned (.string (dotsB s)) ∧ Below w.heap.size w w' := by
  have hc : Lib.countB s ⟨#[0]⟩ ≤ 1048577 := by
    have := Lib.count_le s.data.toList (⟨#[0]⟩ : ByteArray).data.toList
    have e : s.data.toList.length = s.size := by simp
    show Lib.count _ _ ≤ _
    omega
  have h4 : (⟨#[46]⟩ : ByteArray).size = 1 := rfl
  refine (Tryd.strings_ReplaceAll s ⟨#[0]⟩ ⟨#[46]⟩ m w (by omega) hm (by decide) (by rw [h4]; omega)).mono fun e w' ⟨h1, h2⟩ => ⟨?_, h2⟩
  rw [h1]
  show Ending.returned (.string ⟨(Lib.replaceAll s.data.toList [0] [46]).toArray⟩) = _
  rw [replaceAll_dots]
  rfl
/-- a byte that was laid is there -/
theorem laidT_get {first ad : Int} (xs : List Int) (dt : Nat → Nat → Int) (ha : 0 ≤ ad) (hf : first ≤ ad / 16) : ∀ (n j : Nat), j < n → laidT first ad xs dt n ((ad + j) / 16 - first).toNat ((ad + j) % 16).toNat = xs.getD j 0
  | 0, j, h => by omega
  | n + 1, j, h => by
    have ih := laidT_get xs dt ha hf n j
    show (if ((ad + j) / 16 - first).toNat = ((ad + n) / 16 - first).toNat then (fun j' => if j' = ((ad + n) % 16).toNat then xs.getD n 0 else laidT first ad xs dt n ((ad + j) / 16 - first).toNat j') else laidT first ad xs dt n ((ad + j) / 16 - first).toNat) ((ad + j) % 16).toNat = _
    by_cases hj : j = n
    · subst hj
      rw [if_pos rfl]
      simp
    · have ih := ih (by omega)
      by_cases hp : ((ad + j) / 16 - first).toNat = ((ad + n) / 16 - first).toNat
      · rw [if_pos hp]
        rw [if_neg (by omega)]
        exact ih
      · rw [if_neg hp]
        exact ih
def bytesI (l : List UInt8) : List Int := l.map fun b => (b.toNat : Int)
theorem bytesI_len (l : List UInt8) : (bytesI l).length = l.length := by simp [bytesI]
theorem bytesI_get (l : List UInt8) (k : Nat) (h : k < l.length) : (bytesI l ++ [0]).getD k 0 = ((l.getD k 0).toNat : Int) := by
  have h' : k < (bytesI l).length := by rw [bytesI_len]; exact h
  rw [List.getD_eq_getElem?_getD, List.getElem?_append_left h', List.getD_eq_getElem?_getD, List.getElem?_eq_getElem h]
  unfold bytesI
  rw [List.getElem?_map, List.getElem?_eq_getElem h]
  rfl
theorem bytesI_end (l : List UInt8) : (bytesI l ++ [0]).getD l.length 0 = 0 := by
  simp [List.getD_eq_getElem?_getD, List.getElem?_append_right, bytesI_len]
theorem below_bytes (w : World) (s : ByteArray) : Below w.heap.size w (Lib.bytesWorld w 5 s) :=
  ⟨rfl, rfl, rfl, by rw [Lib.bytesWorld_size]; omega, fun k hk => Lib.bytesWorld_at_old w 5 s k hk⟩
/-- append of a zero to the bytes of a text -/
theorem append0 (w : World) (s : ByteArray) (hs : s.size ≤ 64) : ∃ v' w', (Builtin.append_ #[32, 32] 32 #[.slice (some ⟨w.heap.size, 0, none⟩) s.size (grownCap w s.size 0 5), .slice (some ⟨(Lib.bytesWorld w 5 s).heap.size, 0, none⟩) 1 1]).run Tryd.prog ((Lib.bytesWorld w 5 s).alloc (.cells #[.int .u8 0] 5)) = .ok v' w' ∧
    ∃ b cap, v' = .slice (some ⟨b, 0, none⟩) (s.size + 1) cap ∧ s.size + 1 ≤ cap ∧ cap ≤ maxLen ∧ w.heap.size ≤ b ∧ b < w'.heap.size ∧ (∀ i, i < s.size + 1 → w'.cell? ⟨b, i, none⟩ = some (.int .u8 ((bytesI s.data.toList ++ [0]).getD i 0))) ∧ Below w.heap.size w w' := by
  obtain ⟨i0, hi5, hz0, hz1, hz2⟩ := info_parts info5
  have hge := grownCap_ge w s.size 0 5
  have hle := grownCap_le_maxLen w s.size 0 5 (by unfold maxLen; omega)
  have hlen : s.data.toList.length = s.size := by simp
  have hB := below_bytes w s
  have hal := Go.Joins.below_alloc1 (Lib.bytesWorld w 5 s) (.cells #[.int .u8 0] 5)
  have hBa : Below w.heap.size w ((Lib.bytesWorld w 5 s).alloc (.cells #[.int .u8 0] 5)) := hB.trans (hal.mono hB.size)
  have holds : ∀ j, j < s.size → ((Lib.bytesWorld w 5 s).alloc (.cells #[.int .u8 0] 5)).cell? ⟨w.heap.size, j, none⟩ = some (.int .u8 ((bytesI s.data.toList ++ [0]).getD j 0)) := fun j hj => by
    rw [hal.cell (p := ⟨w.heap.size, j, none⟩) (by show w.heap.size < _; rw [Lib.bytesWorld_size]; omega), Lib.bytesWorld_cell w 5 s j hj, bytesI_get _ _ (by omega)]
  have hnew := cells_new (Lib.bytesWorld w 5 s) [.int .u8 0] 5
  by_cases hroom : s.size + 1 ≤ grownCap w s.size 0 5
  · have hcells : ((Lib.bytesWorld w 5 s).alloc (.cells #[.int .u8 0] 5)).heap[w.heap.size]? = some (.cells (Lib.bytesCells w 5 s) 5 ((Lib.bytesCells w 5 s).size, (Lib.bytesCells w 5 s).size + 1)) := by
      rw [hal.block w.heap.size (by rw [Lib.bytesWorld_size]; omega), Lib.bytesWorld_at_new]
    have hsz : (Lib.bytesCells w 5 s).size = grownCap w s.size 0 5 := by
      unfold Lib.bytesCells
      simp
      show s.size + _ = _
      omega
    have hr := run_append_room_cells (P := Tryd.prog) ((Lib.bytesWorld w 5 s).alloc (.cells #[.int .u8 0] 5)) 32 32 5 i0 Tryd.underlying32 hi5 w.heap.size 0 s.size (grownCap w s.size 0 5) ⟨(Lib.bytesWorld w 5 s).heap.size, 0, none⟩ 1 1 [.int .u8 0] (by rw [hz1]; rfl) hnew (by simp [Value.oneCell']) hroom
      (fun j hj => by
        simp at hj; subst hj
        rw [hz1]
        simp [World.cell?, hcells, hsz]
        omega)
      (fun j hj => by
        simp at hj; subst hj
        rw [hz1]
        simp [World.frozen?, hcells, hsz]
        omega)
    refine ⟨_, _, hr, w.heap.size, _, rfl, hroom, hle, Nat.le_refl _, ?_, fun i hi => ?_, ?_⟩
    · simp [World.setCells, World.setCell, Lib.bytesWorld_size]
      omega
    · rw [hz1]
      show (((Lib.bytesWorld w 5 s).alloc (.cells #[.int .u8 0] 5)).setCell ⟨w.heap.size, 0 + s.size * 1, none⟩ (.int .u8 0)).cell? ⟨w.heap.size, i, none⟩ = _
      rw [Nat.zero_add, Nat.mul_one]
      by_cases e : i = s.size
      · subst e
        have : ∃ y, ((Lib.bytesWorld w 5 s).alloc (.cells #[.int .u8 0] 5)).cell? ⟨w.heap.size, s.size, none⟩ = some y := by
          have hl : s.size < (Lib.bytesCells w 5 s).size := by omega
          exact ⟨_, by simp only [World.cell?, hcells]; exact Array.getElem?_eq_getElem hl⟩
        obtain ⟨y, hy⟩ := this
        rw [set_same hy, ← hlen, bytesI_end]
      · exact set_other e (holds i (by omega))
    · rw [hz1]
      exact hBa.setCell (Nat.le_refl _) _
  · obtain ⟨v', w', hr, own, gr⟩ := run_append_arg_grows (P := Tryd.prog) ((Lib.bytesWorld w 5 s).alloc (.cells #[.int .u8 0] 5)) 32 32 5 i0 (.int .u8 0) 1 1 Tryd.underlying32 hi5 hz0 hz1 hz2 rfl (by decide) ⟨w.heap.size, 0, none⟩ s.size (grownCap w s.size 0 5) ((bytesI s.data.toList).map (Value.int .u8)) (by simp [bytesI_len]) (fun j u hj => by
        have hjl : j < s.size := by
          have := (List.getElem?_eq_some_iff.1 hj).1
          simpa [bytesI_len] using this
        rw [Addr.add_lit, Nat.zero_add, holds j hjl]
        have h' : j < (bytesI s.data.toList).length := by rw [bytesI_len]; omega
        rw [← hj]
        simp [List.getD_eq_getElem?_getD, List.getElem?_append_left h', List.getElem?_map, List.getElem?_eq_getElem h']) ⟨(Lib.bytesWorld w 5 s).heap.size, 0, none⟩ 1 1 [.int .u8 0] rfl hnew (by omega) (by unfold maxLen; omega) (by omega)
    obtain ⟨a0, cap, rfl⟩ := own_form own
    obtain ⟨g, rfl, h1, h2, h3, h4⟩ := own_block own (by omega)
    have hg0 := hBa.size
    refine ⟨_, _, hr, g, cap, rfl, h3, h4, by omega, h2, fun i hi => ?_, hBa.trans ((below_none gr).mono hg0)⟩
    have := own.cells (g := g) rfl i (.int .u8 ((bytesI s.data.toList ++ [0]).getD i 0)) (by
      have e : (bytesI s.data.toList).map (Value.int .u8) ++ [.int .u8 0] = (bytesI s.data.toList ++ [0]).map (Value.int .u8) := by simp
      have h' : i < (bytesI s.data.toList ++ [0]).length := by simp [bytesI_len]; omega
      rw [e, List.getElem?_map, List.getElem?_eq_getElem h', List.getD_eq_getElem?_getD, List.getElem?_eq_getElem h']
      rfl)
    rw [Addr.add_lit, Nat.zero_add] at this
    exact this
end Go.Proofs.YtopadiofanaaiaaDoor
