/- The walk of ringkeep5.TurnLost. -/
import Derived.Test.YtopadiofanaaiaaTurnPlay
namespace Go.Proofs.Ytopadiofanaaiaa.TurnLaw
open Go.RowKit
set_option linter.unusedVariables false

def pL : List D := [(1, 0, 0), (3, 0, 1), (2, 0, 0)]
def lostB (z : Nat) : Bool :=
  let o := atR [3, 3] z
  (match playR [pL, pL] o [7] [0, 0] [0, 0] with
  | some ([c], _) => c == (if o = [0, 0, 0, 1, 1, 1] ∨ o = [1, 1, 1, 0, 0, 0] then 9 else 8)
  | _ => false) && (o.length == 6)
theorem lost20 : ∀ z : Fin 20, lostB z.val = true := by decide +kernel
theorem lost_law {z : Nat} (h : z < 20) : ∃ hs, playR [pL, pL] (atR [3, 3] z) [7] [0, 0] [0, 0] = some ([if atR [3, 3] z = [0, 0, 0, 1, 1, 1] ∨ atR [3, 3] z = [1, 1, 1, 0, 0, 0] then 9 else 8], hs) ∧ (atR [3, 3] z).length = 6 := by
  have := lost20 ⟨z, h⟩
  unfold lostB at this
  simp only at this
  rw [Bool.and_eq_true] at this
  obtain ⟨h1, h2⟩ := this
  split at h1
  · rename_i c hs he
    have hc := eq_of_beq h1
    rw [← hc]
    exact ⟨hs, he, eq_of_beq h2⟩
  · cases h1
theorem good33 : good4 [3, 3] := by unfold good4; decide
theorem count33 : countR [3, 3] = 20 := by decide +kernel
abbrev B33 : Obj := .cells #[.int .i64 3, .int .i64 3] 3
theorem nat33 (w : World) : NatS (w.alloc B33) (.slice (some ⟨w.heap.size, 0, none⟩) 2 2) [3, 3] := nat_new w [3, 3] 3 (by decide)
abbrev BPL : Obj := .cells #[.int .i64 1, .int .i64 0, .int .i64 0, .int .i64 3, .int .i64 0, .int .i64 1, .int .i64 2, .int .i64 0, .int .i64 0] 38
theorem prog_pL (w : World) : ProgAt (w.alloc BPL) w.heap.size pL := by
  refine ⟨by simp, fun j hj => ?_⟩
  have : j = 0 ∨ j = 1 ∨ j = 2 := by simp [pL] at hj; omega
  rcases this with rfl | rfl | rfl <;> (refine ⟨?_, ?_, ?_⟩ <;> (rw [cell_of_row _ _ _ _ _ _ (heap_alloc_new _ _)]; rfl))
theorem okPL : okPs 1 [pL, pL] := by
  intro i hi j hj
  have hi' : i = 0 ∨ i = 1 := by simp at hi; omega
  have hj' : j = 0 ∨ j = 1 ∨ j = 2 := by
    rcases hi' with rfl | rfl <;> (simp [pAt, pL] at hj; omega)
  rcases hi' with rfl | rfl <;> rcases hj' with rfl | rfl | rfl <;> (unfold okD; decide)

abbrev B7 : Obj := .cells #[.int .u32 7] 33
abbrev BPP (P : Nat) : Obj := .cells #[.slice (some ⟨P, 0, none⟩) 3 3, .slice (some ⟨P, 0, none⟩) 3 3] 35
theorem progs_pp {w : World} {P : Nat} (h : ProgAt w P pL) : Progs (w.alloc (BPP P)) (.slice (some ⟨w.heap.size, 0, none⟩) 2 2) [pL, pL] := by
  refine ⟨_, 2, rfl, .inr ⟨w.heap.size, rfl, by simp, fun i hi => ?_⟩⟩
  have hk := h.keep (Go.Joins.below_alloc1 w (BPP P)) (Nat.le_refl _)
  have : i = 0 ∨ i = 1 := by simp at hi; omega
  rcases this with rfl | rfl
  · exact ⟨some ⟨P, 0, none⟩, 3, by rw [cell_of_row _ _ _ _ _ _ (heap_alloc_new _ _)]; rfl, .inr ⟨P, rfl, hk⟩⟩
  · exact ⟨some ⟨P, 0, none⟩, 3, by rw [cell_of_row _ _ _ _ _ _ (heap_alloc_new _ _)]; rfl, .inr ⟨P, rfl, hk⟩⟩
theorem u32_7 (w : World) : U32S (w.alloc B7) (.slice (some ⟨w.heap.size, 0, none⟩) 1 1) [7] := at_new w [7] 33 (by decide)
theorem play_pp {w : World} {P c : Nat} {v : Value} {o hs : List Nat} (hp : ProgAt w P pL) (ho : NatS w v o) (h6 : o.length = 6) (hr : playR [pL, pL] o [7] [0, 0] [0, 0] = some ([c], hs)) :
    Calls Try.prog 20 #[.slice (some ⟨w.heap.size, 0, none⟩) 1 1, .slice (some ⟨w.heap.size + 1, 0, none⟩) 2 2, v] ((w.alloc B7).alloc (BPP P)) fun e w' => (∃ v1 v2, e = .returned (.tuple #[v1, v2, .int .i64 0]) ∧ U32S w' v1 [c]) ∧ Below w.heap.size w w' := by
  have hb1 := Go.Joins.below_alloc1 w B7
  have hb2 := hb1.alloc (by simp) (BPP P)
  have h1 := (u32_7 w).keep (Go.Joins.below_alloc1 (w.alloc B7) (BPP P))
  have h2 := progs_pp (hp.keep hb1 (Nat.le_refl _))
  rw [show (w.alloc B7).heap.size = w.heap.size + 1 from by simp] at h2
  refine (play_is h1 (by decide) (by decide) (by decide) h2 (by decide) (by intro i hi; have : i = 0 ∨ i = 1 := by simp at hi; omega
                                                                            rcases this with rfl | rfl <;> decide) okPL (ho.keep hb2) (by omega) hr).mono ?_
  rintro e w' ⟨v1, v2, rfl, h3, _, hb⟩
  exact ⟨⟨v1, v2, rfl, h3⟩, hb2.trans (hb.mono (by simp; omega))⟩
def oA : List Nat := [0, 0, 0, 1, 1, 1]
def oB : List Nat := [1, 1, 1, 0, 0, 0]
abbrev BA : Obj := .cells #[.int .i64 0, .int .i64 0, .int .i64 0, .int .i64 1, .int .i64 1, .int .i64 1] 3
abbrev BB : Obj := .cells #[.int .i64 1, .int .i64 1, .int .i64 1, .int .i64 0, .int .i64 0, .int .i64 0] 3
theorem eqA {w : World} {v : Value} {o : List Nat} (h : NatS w v o) : Calls Try.prog 22 #[v, .slice (some ⟨w.heap.size, 0, none⟩) 6 6] (w.alloc BA) fun e w' => e = .returned (.bool (decide (o = oA))) ∧ Below w.heap.size w w' := by
  have hb0 : Below w.heap.size w (w.alloc BA) := Go.Joins.below_alloc1 _ _
  refine (equal_is (h.keep hb0) (nat_new w oA 3 (by decide))).mono ?_
  rintro e w' ⟨rfl, hb⟩
  exact ⟨rfl, hb0.trans (hb.mono hb0.size)⟩
theorem eqB {w : World} {v : Value} {o : List Nat} (h : NatS w v o) : Calls Try.prog 22 #[v, .slice (some ⟨w.heap.size, 0, none⟩) 6 6] (w.alloc BB) fun e w' => e = .returned (.bool (decide (o = oB))) ∧ Below w.heap.size w w' := by
  have hb0 : Below w.heap.size w (w.alloc BB) := Go.Joins.below_alloc1 _ _
  refine (equal_is (h.keep hb0) (nat_new w oB 3 (by decide))).mono ?_
  rintro e w' ⟨rfl, hb⟩
  exact ⟨rfl, hb0.trans (hb.mono hb0.size)⟩
theorem u32_one_cell {w : World} {v : Value} {c : Nat} (h : U32S w v [c]) : ∃ b off cap, v = .slice (some ⟨b, off, none⟩) 1 cap ∧ b < w.heap.size ∧ w.cell? ⟨b, off, none⟩ = some (.int .u32 c) := by
  obtain ⟨a, cap, rfl, _, _, h⟩ := h
  rcases h with h | ⟨b, off, rfl, hb, hc⟩
  · cases h
  · exact ⟨b, off, cap, rfl, hb, hc 0 (by simp)⟩

set_option maxRecDepth 100000 in
set_option maxHeartbeats 400000 in
theorem turnlost_any {w : World} (k : Int) : Calls Try.prog 6 #[.int .i64 k] w fun e w' => e = .returned (.bool true) ∧ Below w.heap.size w w' := by
  go_enter Try.func6, Try.ntmps6
  go_wp2_with fail
  refine (turns_any _).mono ?_
  rintro e w1 ⟨rfl, hb1⟩
  have HB1 := Lib.hid hb1
  have HP1 := Lib.hid (prog_pL w1)
  clear hb1
  go_wp2_with fail
  have h1 := Count_is good33 (nat33 (w1.alloc BPL))
  rw [count33, show (w1.alloc BPL).heap.size = w1.heap.size + 1 from by simp] at h1
  refine h1.mono ?_
  rintro e w2 ⟨rfl, rfl⟩
  have hb2 := (HB1.out.alloc HB1.out.size BPL).alloc (by have := HB1.out.size; simp; omega) B33
  have hp2 := HP1.out.keep (Go.Joins.below_alloc1 (w1.alloc BPL) B33) (Nat.le_refl _)
  clear h1
  generalize hw2 : (w1.alloc BPL).alloc B33 = w2 at *
  generalize w1.heap.size = P at *
  have HB2 := Lib.hid hb2
  have HP2 := Lib.hid hp2
  clear hb2 hp2 hw2 HP1 HB1
  go_wp2_with fail
  refine (within_any k 20 _ (by decide) (by decide)).mono ?_
  rintro e w3 ⟨rfl, rfl⟩
  obtain ⟨z, hz⟩ : ∃ z : Nat, k % 20 = z := ⟨(k % 20).toNat, by omega⟩
  have hz20 : z < 20 := by omega
  rw [hz]
  clear hz
  have hat := at_is (k0 := z) good33 (by rw [count33]; exact hz20) (nat33 w2)
  obtain ⟨hs, hplay, ho6⟩ := lost_law hz20
  go_wp2_with fail
  refine hat.mono ?_
  rintro e w3 ⟨v6, rfl, hord, hb3⟩
  have hb23 : Below w2.heap.size w2 w3 := (Go.Joins.below_alloc1 w2 B33).trans (hb3.mono (by simp))
  have hp3 := HP2.out.keep hb23 (Nat.le_refl _)
  have HB3 := Lib.hid (HB2.out.trans (hb23.mono HB2.out.size))
  have HPL := Lib.hid (play_pp hp3 hord ho6 hplay)
  have HORD := Lib.hid hord
  have HBT := Lib.hid (fun (wx : World) (hb : Below w3.heap.size w3 wx) => And.intro (HB3.out.trans (hb.mono HB3.out.size)) (hord.keep hb))
  generalize hO : atR [3, 3] z = O at *
  have hor : O = oA ∨ (¬ O = oA ∧ O = oB) ∨ (¬ O = oA ∧ ¬ O = oB) := by
    by_cases h1 : O = oA
    · exact .inl h1
    · by_cases h2 : O = oB
      · exact .inr (.inl ⟨h1, h2⟩)
      · exact .inr (.inr ⟨h1, h2⟩)
  have HOR := Lib.hid hor
  have hcc : ((if O = [0, 0, 0, 1, 1, 1] ∨ O = [1, 1, 1, 0, 0, 0] then 9 else 8 : Nat)) = (if O = oA ∨ O = oB then 9 else 8) := rfl
  rw [hcc] at HPL
  clear hat hplay ho6 hord hb3 hb23 hp3 HB2 HP2 hz20 hcc hor hO
  generalize hc : (if O = oA ∨ O = oB then 9 else 8 : Nat) = c at *
  have HC := Lib.hid hc
  clear hc
  go_wp2_with fail
  refine HPL.out.mono ?_
  rintro e w4 ⟨⟨v8, v9, rfl, hcs⟩, hb4⟩
  obtain ⟨bc, oc, cc, rfl, hbc, hcell⟩ := u32_one_cell hcs
  obtain ⟨hb4w, ho4⟩ := HBT.out _ hb4
  have HB4 := Lib.hid hb4w
  have HCE := Lib.hid hcell
  have HBC := Lib.hid hbc
  have HA := Lib.hid (eqA ho4)
  have HO4 := Lib.hid ho4
  clear hcs hb4 hb4w ho4 hbc hcell HPL
  go_wp2_with fail
  refine HA.out.mono ?_
  rintro e w5 ⟨rfl, hb5⟩
  have HB5 := Lib.hid (HB4.out.trans (hb5.mono HB4.out.size))
  have HB45 := Lib.hid hb5
  have hc5 := (hb5.cell (p := ⟨bc, oc, none⟩) HBC.out).trans HCE.out
  have ho5 := HO4.out.keep hb5
  have HBC5 := Lib.hid (Nat.lt_of_lt_of_le HBC.out hb5.size)
  rcases HOR.out with h | ⟨h, h'⟩ | ⟨h, h'⟩
  · have hc9 : c = 9 := by rw [← HC.out, if_pos (.inl h)]
    subst hc9
    have hd : decide (O = oA) = true := decide_eq_true h
    rw [hd]
    clear h hd hb5 ho5
    go_wp2_with fail
    refine (good_any _ _ [0, 0] _ (by simp) (two0 _ _)).mono ?_
    rintro e w7 ⟨rfl, rfl⟩
    rw [show ([(0 : Int), 0].all (· == 0)) = true from rfl]
    have hbc7 := HBC5.out
    go_wp2
    go_ret
    exact ⟨rfl, HB5.out.alloc HB5.out.size _⟩
  · have hc9 : c = 9 := by rw [← HC.out, if_pos (.inr h')]
    subst hc9
    have hd : decide (O = oA) = false := decide_eq_false h
    rw [hd]
    have HE := Lib.hid (eqB ho5)
    have HX := Lib.hid h'
    clear h'
    clear h hd hb5 ho5
    go_wp2_with fail
    refine HE.out.mono ?_
    rintro e w6 ⟨rfl, hb6⟩
    have hd2 : decide (O = oB) = true := decide_eq_true HX.out
    rw [hd2]
    have HB6 := Lib.hid (HB5.out.trans (hb6.mono HB5.out.size))
    have hc6 := (hb6.cell (p := ⟨bc, oc, none⟩) HBC5.out).trans hc5
    have HBC6 := Lib.hid (Nat.lt_of_lt_of_le HBC5.out hb6.size)
    clear hd2 hb6 hc5
    go_wp2_with fail
    refine (good_any _ _ [0, 0] _ (by simp) (two0 _ _)).mono ?_
    rintro e w7 ⟨rfl, rfl⟩
    rw [show ([(0 : Int), 0].all (· == 0)) = true from rfl]
    have hbc7 := HBC6.out
    go_wp2
    go_ret
    exact ⟨rfl, HB6.out.alloc HB6.out.size _⟩
  · have hc8 : c = 8 := by rw [← HC.out, if_neg (by rintro (h1 | h1); exact h h1; exact h' h1)]
    subst hc8
    have hd : decide (O = oA) = false := decide_eq_false h
    rw [hd]
    have HE := Lib.hid (eqB ho5)
    have HX := Lib.hid h'
    clear h'
    clear h hd hb5 ho5
    go_wp2_with fail
    refine HE.out.mono ?_
    rintro e w6 ⟨rfl, hb6⟩
    have hd2 : decide (O = oB) = false := decide_eq_false HX.out
    rw [hd2]
    have HB6 := Lib.hid (HB5.out.trans (hb6.mono HB5.out.size))
    have hc6 := (hb6.cell (p := ⟨bc, oc, none⟩) HBC5.out).trans hc5
    have HBC6 := Lib.hid (Nat.lt_of_lt_of_le HBC5.out hb6.size)
    clear hd2 hb6 hc5
    go_wp2_with fail
    refine (good_any _ _ [0, 0] _ (by simp) (two0 _ _)).mono ?_
    rintro e w7 ⟨rfl, rfl⟩
    rw [show ([(0 : Int), 0].all (· == 0)) = true from rfl]
    have hbc7 := HBC6.out
    go_wp2
    go_ret
    exact ⟨rfl, HB6.out.alloc HB6.out.size _⟩
end Go.Proofs.Ytopadiofanaaiaa.TurnLaw
