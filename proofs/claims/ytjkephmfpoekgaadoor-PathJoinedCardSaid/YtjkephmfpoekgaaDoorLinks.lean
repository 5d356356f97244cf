/- The walks of the clones and of link. -/
import Derived.Test.YtjkephmfpoekgaaDoorWalker
namespace Go.Proofs.YtjkephmfpoekgaaDoor.PathLaw
open Go.RowKit Go.Proofs.YtjkephmfpoekgaaDoor.CredLaw
set_option linter.unusedVariables false
set_option linter.unusedSimpArgs false
def ClonePost {α : Type} (f : α → Value) (e : Nat) (l : List α) (w : World) (E : Ending) (w' : World) : Prop := ∃ v', E = .returned v' ∧ w'.ownsRow w.heap.size e 1 v' l.length (l.map f) ∧ Below w.heap.size w w'
theorem clone_int {w : World} {v : Value} {st : List Int} (h : At (Value.int .i64) 0 w v st) (hl : st.length * 8 ≤ 140737488355328) : Calls Tryd.prog 15 #[v] w (ClonePost (Value.int .i64) 3 st w) := by
  obtain ⟨a, cap, rfl, h1, h2, h3⟩ := h
  cases a with
  | none =>
    rcases h3 with rfl | ⟨b, off, h, _⟩
    · exact (Tryd.slices_Clone_int_nil _ _ w).mono fun e w' ⟨h1, h2⟩ => ⟨_, h1, World.ownsRow_nil _ _ _ _, by rw [h2]; exact Below.refl _ _⟩
    · cases h
  | some ad =>
    rcases h3 with rfl | ⟨b, off, h, hlt, hc⟩
    · exact (Tryd.slices_Clone_int_zero ad _ w).mono fun e w' ⟨v', h1, h2, _, h3⟩ => ⟨v', h1, h2, h3⟩
    · cases h
      exact (Tryd.slices_Clone_int b off st.length cap st w (Nat.le_refl _) hl hc).mono fun e w' ⟨v', h1, h2, _, h3⟩ => ⟨v', h1, by rw [List.take_length] at h2; exact h2, h3⟩
theorem clone_str {w : World} {v : Value} {l : List ByteArray} (h : At Value.string ⟨#[]⟩ w v l) (hl : l.length * 16 ≤ 140737488355328) : Calls Tryd.prog 38 #[v] w (ClonePost Value.string 9 l w) := by
  obtain ⟨a, cap, rfl, h1, h2, h3⟩ := h
  cases a with
  | none =>
    rcases h3 with rfl | ⟨b, off, h, _⟩
    · exact (Tryd.slices_Clone_string_nil _ _ w).mono fun e w' ⟨h1, h2⟩ => ⟨_, h1, World.ownsRow_nil _ _ _ _, by rw [h2]; exact Below.refl _ _⟩
    · cases h
  | some ad =>
    rcases h3 with rfl | ⟨b, off, h, hlt, hc⟩
    · exact (Tryd.slices_Clone_string_zero ad _ w).mono fun e w' ⟨v', h1, h2, _, h3⟩ => ⟨v', h1, h2, h3⟩
    · cases h
      exact (Tryd.slices_Clone_string b off l.length cap l w (Nat.le_refl _) hl hc).mono fun e w' ⟨v', h1, h2, _, h3⟩ => ⟨v', h1, by rw [List.take_length] at h2; exact h2, h3⟩
theorem grownBy_trans_below {w w1 w2 : World} {row : Option Nat} (h : w.grownBy w1 row) (hb : Below w1.heap.size w1 w2) : w.grownBy w2 row :=
  h.andThen (gb hb) (fun j hj => by cases hj)
theorem grownBy_set (w : World) (b i : Nat) (x : Value) : w.grownBy (w.setCell ⟨b, i, none⟩ x) (some b) :=
  ⟨rfl, rfl, rfl, by simp [World.setCell], fun k hk hne => Below.heap_setCell _ _ _ _ (by intro e; exact hne (by rw [e]))⟩
def linkR (T : List Nd) (k : Nat) (n : Int) : Int := match k with
  | 0 => 14
  | _ + 1 => if ((fsT T).tells n).2 ≠ 0 then ((fsT T).tells n).2 else (splitT ((fsT T).tells n).1.data.toList).2.2
def LinkPost (W0 w : World) (b : Nat) (T : List Nd) (tv : Value) (c : C) (mv sv : Value) (k : Nat) (st : List Int) (n : Int) (E : Ending) (w' : World) : Prop :=
  ∃ (v : Value), E = .returned (.tuple #[v, .int .i64 (linkR T k n)]) ∧ w.grownBy w' (some b) ∧ (linkR T k n = 0 → ∃ (k' : Nat) (sv' : Value), k = k' + 1 ∧ sv'.ownBlock = sv.ownBlock ∧ WK W0 w' b T tv c mv sv' (8 - (k' : Int)) ∧ StkO w' W0.heap.size sv' (rooted (splitT ((fsT T).tells n).1.data.toList).1 st) ∧
    w'.ownsRow w.heap.size 9 1 v (splitT ((fsT T).tells n).1.data.toList).2.1.length ((splitT ((fsT T).tells n).1.data.toList).2.1.map Value.string))
theorem tells_row {w : World} {v : Value} {T : List Nd} (n : Int) (h : TreeS w v T) : Calls Tryd.prog 79 #[v, .int .i64 n] w fun E w' => E = .returned (.tuple #[.string ((fsT T).tells n).1, .int .i64 ((fsT T).tells n).2]) ∧ Below w.heap.size w w' := tells_is n h
/-- a store of the links' number -/
theorem WK.setLinks {W0 w : World} {b : Nat} {T : List Nd} {tv : Value} {c : C} {mv sv : Value} {lk : Int} (h : WK W0 w b T tv c mv sv lk) (x : Int) : WK W0 (w.setCell ⟨b, 9, none⟩ (.int .i64 x)) b T tv c mv sv x := by
  have o : ∀ {j v}, j ≠ 9 → w.cell? ⟨b, j, none⟩ = some v → (w.setCell ⟨b, 9, none⟩ (.int .i64 x)).cell? ⟨b, j, none⟩ = some v := fun hj hv => by
    rw [World.cell?_setCell_other _ _ _ _ (by intro e; exact hj (by simpa using (congrArg Addr.off e).symm))]; exact hv
  refine ⟨by simpa [World.setCell] using h.lt, o (by decide) h.c0, o (by decide) h.c1, o (by decide) h.c2, o (by decide) h.c3, o (by decide) h.c4, o (by decide) h.c5, o (by decide) h.c6, o (by decide) h.c7, o (by decide) h.c8, ?_, fun j => by rw [World.frozen?_setCell]; exact h.fz j, h.ba.setCell h.le _, h.le, h.tr, h.mo⟩
  have := h.c9
  simp [go_sem, this]
theorem WK.setStack {W0 w : World} {b : Nat} {T : List Nd} {tv : Value} {c : C} {mv sv : Value} {lk : Int} (h : WK W0 w b T tv c mv sv lk) (x : Value) : WK W0 (w.setCell ⟨b, 8, none⟩ x) b T tv c mv x lk := by
  have o : ∀ {j v}, j ≠ 8 → w.cell? ⟨b, j, none⟩ = some v → (w.setCell ⟨b, 8, none⟩ x).cell? ⟨b, j, none⟩ = some v := fun hj hv => by
    rw [World.cell?_setCell_other _ _ _ _ (by intro e; exact hj (by simpa using (congrArg Addr.off e).symm))]; exact hv
  refine ⟨by simpa [World.setCell] using h.lt, o (by decide) h.c0, o (by decide) h.c1, o (by decide) h.c2, o (by decide) h.c3, o (by decide) h.c4, o (by decide) h.c5, o (by decide) h.c6, o (by decide) h.c7, ?_, o (by decide) h.c9, fun j => by rw [World.frozen?_setCell]; exact h.fz j, h.ba.setCell h.le _, h.le, h.tr, h.mo⟩
  have := h.c8
  simp [go_sem, this]
theorem ret_vi {v : Value} {x y : Int} (h : y = x) : Ending.returned (.tuple #[v, .int .i64 x]) = .returned (.tuple #[v, .int .i64 y]) := by rw [h]
theorem rooted_own {w : World} {B : Nat} {a : Option Addr} {cap : Nat} {st : List Int} (h : StkO w B (.slice a st.length cap) st) (h0 : st ≠ []) : StkO w B (.slice a 1 cap) (st.take 1) := by
  have hl : 0 < st.length := List.length_pos_iff.2 h0
  have := owns_take (k := 1) h (by omega) hl
  unfold StkO
  rw [List.length_take, Nat.min_eq_left (by omega)]
  rw [← List.map_take] at this
  exact this
set_option maxRecDepth 100000 in
set_option maxHeartbeats 400000 in
theorem link_walk {W0 w : World} {b : Nat} {T : List Nd} {tv : Value} {c : C} {mv sv : Value} {k : Nat} {st : List Int} {m : Int} (n : Int) (h : WK W0 w b T tv c mv sv (8 - (k : Int))) (hk : k ≤ 8) (hs : StkO w W0.heap.size sv st) (h0 : st ≠ []) (hne : sv.ownBlock ≠ some b) (hm : W0.cell? ⟨0, 0, none⟩ = some (.int .i64 m)) : Calls Tryd.prog 25 #[.pointer (some ⟨b, 0, none⟩), .int .i64 n] w (LinkPost W0 w b T tv c mv sv k st n) := by
  have c0 := h.c0
  have c9 := h.c9
  have hfz := h.fz
  cases k with
  | zero =>
    have HR : Hid (linkR T 0 n = 14) := rfl
    have HG1 := Lib.hid (grownBy_set w b 9 (.int .i64 9))
    have c9 : w.cell? ⟨b, 9, none⟩ = some (.int .i64 8) := c9
    clear h hs
    go_enter Tryd.func25, Tryd.ntmps25
    go_wp2
    go_ret2
    exact ⟨_, rfl, HG1.out, fun h => by have := HR.out.symm.trans h; cases this⟩
  | succ k =>
    have e1 : 8 - ((k + 1 : Nat) : Int) = 7 - (k : Int) := by omega
    rw [e1] at c9
    have hw9 : IntKind.i64.wrap (7 - (k : Int) + 1) = 8 - (k : Int) := by rw [IntWalk.i64_in _ (by omega)]; omega
    have hw1 := h.setLinks (8 - (k : Int))
    have hs1 : StkO (w.setCell ⟨b, 9, none⟩ (.int .i64 (8 - (k : Int)))) W0.heap.size sv st := owns_set hs hne
    have hg1 := grownBy_set w b 9 (.int .i64 (8 - (k : Int)))
    have HW1 := Lib.hid hw1
    have HS1 := Lib.hid hs1
    have HG1 := Lib.hid hg1
    clear h hs hw1 hs1 hg1 e1
    obtain ⟨R, hR⟩ : ∃ R, R = (fsT T).tells n := ⟨_, rfl⟩
    have HLR : Hid (linkR T (k + 1) n = if R.2 ≠ 0 then R.2 else (splitT R.1.data.toList).2.2) := Lib.hid (by rw [hR]; rfl)
    have HRR := Lib.hid hR
    go_enter Tryd.func25, Tryd.ntmps25
    go_upto_region 2 with fail
    revert HW1 HS1 HG1
    generalize w.setCell ⟨b, 9, none⟩ (.int .i64 (8 - (k : Int))) = w1
    intro HW1 HS1 HG1
    have a0 := HW1.out.c0
    have a8 := HW1.out.c8
    have a9 := HW1.out.c9
    have hfz1 := HW1.out.fz
    have htl := tells_row n (HW1.out.tr.keep HW1.out.ba)
    rw [← hR] at htl
    have HTL := Lib.hid htl
    have hms := method_tells
    have g8 : ¬ ((8 : Int) < 8 - (k : Int)) := by omega
    clear c0 c9 hfz hw9 htl hR
    obtain ⟨ts, te⟩ := R
    dsimp only at *
    go_upto_region 5 with (go_at_call 79; refine HTL.out.mono ?_; rintro e2 w2 ⟨rfl, hb2⟩)
    have HG2 := Lib.hid (grownBy_trans_below HG1.out hb2)
    have HW2 := Lib.hid (HW1.out.keep hb2)
    have HS2 : Hid (StkO w2 W0.heap.size sv st) := Lib.hid (owns_keep HS1.out hb2)
    clear a0 a8 a9 hfz1 hb2 HTL HW1 HS1 HG1
    by_cases hte : te = 0
    · subst hte
      have hsp := split_is ts m w2 ((HW2.out.ba.cell (p := ⟨0, 0, none⟩) (World.block_lt_of_cell? W0 _ hm)).trans hm)
      have hl := HLR.out.trans (if_neg (by decide))
      have hq : splitT ((fsT T).tells n).1.data.toList = splitT ts.data.toList := by rw [← HRR.out]
      unfold SplitPost at hsp
      have h32 : (splitT ts.data.toList).2.1.length ≤ 32 := splitT_len (s := ts.data.toList) rfl
      revert hsp hl hq h32
      generalize splitT ts.data.toList = q
      obtain ⟨g, l, e3⟩ := q
      intro hsp hl hq h32
      dsimp only at hsp hl h32
      have HSP := Lib.hid hsp
      have HL := Lib.hid hl
      have HQ := Lib.hid hq
      clear hsp hl hq
      go_upto_region 8 with (go_at_call 22; refine HSP.out.mono ?_; rintro e3 w3 ⟨lv, rfl, hol, hb3⟩)
      have HG3 := Lib.hid (grownBy_trans_below HG2.out hb3)
      have HW3 := Lib.hid (HW2.out.keep hb3)
      have HS3 : Hid (StkO w3 W0.heap.size sv st) := Lib.hid (owns_keep HS2.out hb3)
      have hlb := far_row hol HW2.out.lt
      have HZ3 := Lib.hid (show w.heap.size ≤ w2.heap.size from HG2.out.size)
      have HB3 := Lib.hid hb3
      clear HSP HW2 HS2 hb3
      by_cases he3 : e3 = 0
      · subst he3
        cases g with
        | false =>
          have hcl := clone_str (at_of_owned hol) (by omega)
          have HCL := Lib.hid hcl
          clear hol hcl
          go_wp2_with (go_at_call 38; refine HCL.out.mono ?_; rintro e4 w4 ⟨v4, rfl, ho4, hb4⟩)
          go_ret2
          refine ⟨_, ret_vi HL.out, grownBy_trans_below HG3.out hb4, fun _ => ⟨k, sv, rfl, rfl, HW3.out.keep hb4, ?_, ?_⟩⟩
          · rw [HQ.out]; exact owns_keep HS3.out hb4
          · rw [HQ.out]; exact owns_base ho4 (Nat.le_trans HZ3.out HB3.out.size)
        | true =>
          obtain ⟨gb', cap, rfl, hl0, hl1, hl2, -⟩ := HS3.out.top h0
          have hmx : (cap : Int) ≤ 9223372036854775807 := by have : cap ≤ maxLen := hl2; unfold maxLen at this; omega
          have a8 := HW3.out.c8
          have hfz3 := HW3.out.fz
          have i1 : (1 : Int) ≤ (cap : Int) := by omega
          have hw4 := HW3.out.setStack (.slice (some ⟨gb', 0, none⟩) 1 cap)
          have hs4 : StkO (w3.setCell ⟨b, 8, none⟩ (.slice (some ⟨gb', 0, none⟩) 1 cap)) W0.heap.size (.slice (some ⟨gb', 0, none⟩) 1 cap) (st.take 1) := owns_set (rooted_own HS3.out h0) hne
          have hcl := clone_str (at_of_owned (owns_set (i := 8) (x := .slice (some ⟨gb', 0, none⟩) 1 cap) hol hlb)) (by omega)
          have HCL := Lib.hid hcl
          have HW4 := Lib.hid hw4
          have HS4 := Lib.hid hs4
          have HG4 := Lib.hid (HG3.out.trans (grownBy_set w3 b 8 (.slice (some ⟨gb', 0, none⟩) 1 cap)))
          have HZ4 := Lib.hid (show w.heap.size ≤ (w3.setCell ⟨b, 8, none⟩ (.slice (some ⟨gb', 0, none⟩) 1 cap)).heap.size by simp [World.setCell]; exact Nat.le_trans HZ3.out HB3.out.size)
          clear hol hcl hw4 hs4
          go_wp2_with (go_at_call 38; refine HCL.out.mono ?_; rintro e4 w4 ⟨v4, rfl, ho4, hb4⟩)
          go_ret2
          refine ⟨_, ret_vi HL.out, grownBy_trans_below HG4.out hb4, fun _ => ⟨k, .slice (some ⟨gb', 0, none⟩) 1 cap, rfl, rfl, HW4.out.keep hb4, ?_, ?_⟩⟩
          · rw [HQ.out]; exact owns_keep HS4.out hb4
          · rw [HQ.out]; exact owns_base ho4 HZ4.out
      · have he3' : (e3 != 0) = true := by simp [he3]
        have HNE := Lib.hid he3
        clear he3 hol
        go_wp2_with fail
        go_ret2
        exact ⟨_, ret_vi HL.out, HG3.out, fun h => absurd (HL.out.symm.trans h) HNE.out⟩
    · have hte' : (te != 0) = true := by simp [hte]
      have HL := Lib.hid (HLR.out.trans (if_pos hte))
      have HNE := Lib.hid hte
      clear hte
      go_wp2_with fail
      go_ret2
      exact ⟨_, ret_vi HL.out, HG2.out, fun h => absurd (HL.out.symm.trans h) HNE.out⟩
end Go.Proofs.YtjkephmfpoekgaaDoor.PathLaw
