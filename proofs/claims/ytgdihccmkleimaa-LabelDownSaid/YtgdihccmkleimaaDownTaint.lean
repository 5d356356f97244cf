/- The walk of label.Taint. -/
import Derived.Test.YtgdihccmkleimaaDownRun
namespace Go.Proofs.Ytgdihccmkleimaa.LabelLaw
open Go.RowKit
set_option linter.unusedVariables false

/-- the six cells of a block of bools -/
def SixB (w : World) (b : Nat) (K : Nat → Bool) : Prop := b < w.heap.size ∧ ∀ j, j < 6 → w.cell? ⟨b, j, none⟩ = some (.bool (K j)) ∧ w.frozen? ⟨b, j, none⟩ = false
theorem SixB.keep {w w' : World} {b : Nat} {K : Nat → Bool} (h : SixB w b K) (hb : Below w.heap.size w w') : SixB w' b K :=
  ⟨Nat.lt_of_lt_of_le h.1 hb.size, fun j hj => ⟨(hb.cell (p := ⟨b, j, none⟩) h.1).trans (h.2 j hj).1, (hb.frozen (p := ⟨b, j, none⟩) h.1).trans (h.2 j hj).2⟩⟩
theorem SixB.set {w : World} {b y : Nat} {K : Nat → Bool} (h : SixB w b K) (hy : y < 6) (v : Bool) : SixB (w.setCell ⟨b, y, none⟩ (.bool v)) b (upd K y v) := by
  refine ⟨by simpa using h.1, fun j hj => ⟨?_, ?_⟩⟩
  · by_cases e : j = y
    · subst e
      rw [upd_same]
      simp [go_sem, (h.2 j hj).1]
    · rw [upd_other _ _ e]
      rw [World.cell?_setCell_other]
      · exact (h.2 j hj).1
      · simp; try omega
  · rw [World.frozen?_setCell]; exact (h.2 j hj).2
theorem SixB.other {w : World} {b c y : Nat} {K : Nat → Bool} (h : SixB w b K) (hc : c ≠ b) (v : Value) : SixB (w.setCell ⟨c, y, none⟩ v) b K := by
  refine ⟨by simpa using h.1, fun j hj => ⟨?_, ?_⟩⟩
  · rw [World.cell?_setCell_other]
    · exact (h.2 j hj).1
    · simp; try omega
  · rw [World.frozen?_setCell]; exact (h.2 j hj).2
theorem six_new (w : World) (T : TypeId) : SixB (w.alloc (.cells #[.bool false, .bool false, .bool false, .bool false, .bool false, .bool false] T)) w.heap.size (fun _ => false) := by
  have h := has_new w [.bool false, .bool false, .bool false, .bool false, .bool false, .bool false] T
  refine ⟨h.1, fun j hj => ⟨h.2 j _ ?_, frozen_of_row _ _ _ _ _ (heap_alloc_new _ _)⟩⟩
  have : j = 0 ∨ j = 1 ∨ j = 2 ∨ j = 3 ∨ j = 4 ∨ j = 5 := by omega
  rcases this with rfl | rfl | rfl | rfl | rfl | rfl <;> rfl
theorem six_list (w : World) (T : TypeId) (y : Nat) (hy : y < 6) : SixB (w.alloc (.cells (List.set [.bool false, .bool false, .bool false, .bool false, .bool false, .bool false] y (.bool true)).toArray T)) w.heap.size (upd (fun _ => false) y true) := by
  have h := has_new w (List.set [.bool false, .bool false, .bool false, .bool false, .bool false, .bool false] y (.bool true)) T
  refine ⟨h.1, fun j hj => ⟨h.2 j _ ?_, frozen_of_row _ _ _ _ _ (heap_alloc_new _ _)⟩⟩
  have hc : ∀ y j : Fin 6, (List.set [false, false, false, false, false, false] y.val true)[j.val]? = some (upd (fun _ => false) y.val true j.val) := by decide +kernel
  have := hc ⟨y, hy⟩ ⟨j, hj⟩
  have e : (List.set [.bool false, .bool false, .bool false, .bool false, .bool false, .bool false] y (.bool true)) = (List.set [false, false, false, false, false, false] y true).map Value.bool := by rw [List.map_set]; rfl
  rw [e, List.getElem?_map, this]; rfl
theorem SixB.drew {w : World} {b : Nat} {K : Nat → Bool} (h : SixB w b K) : SixB w.drew b K := h.keep (Below.refl _ _).drew

def TaintPost (who what : List Lab) (fr : Int) (w : World) (e : Ending) (w' : World) : Prop :=
  ∃ v1 v2 en xs ys, e = .returned (.tuple #[v1, v2, .int .i64 en]) ∧ Below w.heap.size w w' ∧ At (Value.int .i64) 0 w' v1 xs ∧ At (Value.int .i64) 0 w' v2 ys ∧
    ((en = 0 ∧ (0 ≤ fr ∧ fr < what.length) ∧ who.length ≤ 6 ∧ what.length ≤ 6 ∧ allOk who ∧ allOk what ∧ (∀ i ∈ xs, 0 ≤ i ∧ i < who.length ∧ flowsB (at_ what fr) (at_ who i) = true) ∧ (∀ i ∈ ys, 0 ≤ i ∧ i < what.length ∧ flowsB (at_ what fr) (at_ what i) = true) ∧ fr ∈ ys ∧ ys.length ≤ 6) ∨ (en ≠ 0 ∧ xs = [] ∧ ys = []))
theorem info3 : (Try.prog.info? 3).map (fun i => (i.zero, i.size, i.bytes)) = some (some (.int .i64 0), 1, 8) := by kernel_rfl
theorem at_nil (w : World) : At (Value.int .i64) 0 w (.slice none 0 0) [] := ⟨none, 0, rfl, Nat.le_refl _, Nat.zero_le _, .inl rfl⟩
theorem taintPost_bad {who what : List Lab} {fr : Int} {w w' : World} {en : Int} (h : en ≠ 0) (hb : Below w.heap.size w w') : TaintPost who what fr w (.returned (.tuple #[.slice none 0 0, .slice none 0 0, .int .i64 en])) w' :=
  ⟨_, _, en, [], [], rfl, hb, at_nil _, at_nil _, .inr ⟨h, rfl, rfl⟩⟩

set_option maxRecDepth 100000 in
set_option maxHeartbeats 4000000 in
theorem taint_is {w : World} {v0 v1 v2 : Value} {who what : List Lab} {acts : List Act} (fr : Int) (h0 : LabS w v0 who) (h1 : LabS w v1 what) (h2 : ActS w v2 acts) :
    Calls Try.prog 28 #[v0, v1, v2, .int .i64 fr] w (TaintPost who what fr w) := by
  have HRUN := Lib.hid (run_is h0 h1 h2)
  obtain ⟨a1, cap1, rfl, hl1, _⟩ := h1
  obtain ⟨a2, cap2, rfl, hl2, h2⟩ := h2
  obtain ⟨n1, hn1⟩ : ∃ n, n = what.length := ⟨_, rfl⟩
  obtain ⟨n2, hn2⟩ : ∃ n, n = acts.length := ⟨_, rfl⟩
  rw [← hn1] at hl1 HRUN ⊢
  rw [← hn2] at hl2 h2 HRUN ⊢
  have N1 := Lib.hid hn1
  have N2 := Lib.hid hn2
  have H2 := Lib.hid h2
  clear hn1 hn2 h0 h2
  go_enter Try.func28, Try.ntmps28
  go_wp2_with fail
  refine HRUN.out.mono ?_
  rintro e w1 ⟨vd, en, done, rfl, hb1, hd, hgood⟩
  have HB1 := Lib.hid hb1
  clear hb1
  by_cases hen : en = 0
  · subst hen
    obtain ⟨l6, m6, k40, okw, okt, hdone, hin⟩ := hgood rfl
    by_cases hfr : 0 ≤ fr ∧ fr < n1
    · obtain ⟨y, rfl⟩ : ∃ y : Nat, fr = y := ⟨fr.toNat, by omega⟩
      have hy : y < n1 := by omega
      have hy6 : (y : Int) < 6 := by rw [← N1.out] at m6; omega
      have HG := Lib.hid (And.intro l6 (And.intro m6 (And.intro k40 (And.intro okw (And.intro okt hin)))))
      have HIV := Lib.hid (inv_start (who := who) (what := what) (fr := (y : Int)) okt (by omega) (by rw [← N1.out]; omega))
      clear hgood hfr l6 m6 k40 okw okt hin
      have s1 : SixB ((w1.alloc (.cells #[.bool false, .bool false, .bool false, .bool false, .bool false, .bool false] 108)).alloc (.cells #[.bool false, .bool false, .bool false, .bool false, .bool false, .bool false] 108)) w1.heap.size (fun _ => false) := (six_new w1 108).keep ((Below.refl _ _).alloc (Nat.le_refl _) _)
      have s2 : SixB ((w1.alloc (.cells #[.bool false, .bool false, .bool false, .bool false, .bool false, .bool false] 108)).alloc (.cells #[.bool false, .bool false, .bool false, .bool false, .bool false, .bool false] 108)) (w1.heap.size + 1) (fun _ => false) := by
        have := six_new (w1.alloc (.cells #[.bool false, .bool false, .bool false, .bool false, .bool false, .bool false] 108)) 108
        rwa [show (w1.alloc (.cells #[.bool false, .bool false, .bool false, .bool false, .bool false, .bool false] 108)).heap.size = w1.heap.size + 1 from by simp] at this
      have hB2 : Below w1.heap.size w1 ((w1.alloc (.cells #[.bool false, .bool false, .bool false, .bool false, .bool false, .bool false] 108)).alloc (.cells #[.bool false, .bool false, .bool false, .bool false, .bool false, .bool false] 108)) := Go.Joins.below_alloc2 _ _ _
      have c2 := (s2.2 y (by omega)).1
      have f2 := (s2.2 y (by omega)).2
      have t1 : SixB ((w1.alloc (.cells #[.bool false, .bool false, .bool false, .bool false, .bool false, .bool false] 108)).alloc (.cells (List.set [.bool false, .bool false, .bool false, .bool false, .bool false, .bool false] y (.bool true)).toArray 108)) w1.heap.size (fun _ => false) := (six_new w1 108).keep ((Below.refl _ _).alloc (Nat.le_refl _) _)
      have t2 : SixB ((w1.alloc (.cells #[.bool false, .bool false, .bool false, .bool false, .bool false, .bool false] 108)).alloc (.cells (List.set [.bool false, .bool false, .bool false, .bool false, .bool false, .bool false] y (.bool true)).toArray 108)) (w1.heap.size + 1) (upd (fun _ => false) y true) := by
        have := six_list (w1.alloc (.cells #[.bool false, .bool false, .bool false, .bool false, .bool false, .bool false] 108)) 108 y (by omega)
        rwa [show (w1.alloc (.cells #[.bool false, .bool false, .bool false, .bool false, .bool false, .bool false] 108)).heap.size = w1.heap.size + 1 from by simp] at this
      have hB3 : Below w1.heap.size w1 ((w1.alloc (.cells #[.bool false, .bool false, .bool false, .bool false, .bool false, .bool false] 108)).alloc (.cells (List.set [.bool false, .bool false, .bool false, .bool false, .bool false, .bool false] y (.bool true)).toArray 108)) := Go.Joins.below_alloc2 _ _ _
      have T1 := Lib.hid t1
      have T2 := Lib.hid t2
      have HB3 := Lib.hid hB3
      clear s1 s2 hB2 t1 t2 hB3
      go_wp2_with fail
      clear c2 f2
      generalize decide (n1 ≤ y) = q1
      generalize decide ((y : Int) < 0) = q2
      obtain ⟨w3, hw3⟩ : ∃ w3, w3 = ((w1.alloc (.cells #[.bool false, .bool false, .bool false, .bool false, .bool false, .bool false] 108)).alloc (.cells (List.set [.bool false, .bool false, .bool false, .bool false, .bool false, .bool false] y (.bool true)).toArray 108)) := ⟨_, rfl⟩
      rw [← hw3] at T1 T2 HB3 ⊢
      clear hw3
      obtain ⟨ad, capd, rfl, hld, hcd, hd⟩ := hd
      have hlen : done.length = n2 := by rw [hdone]; simp [N2.out]
      rw [hlen] at hld hd ⊢
      have HD := Lib.hid hd
      have HDN := Lib.hid hdone
      have HL := Lib.hid hlen
      clear hd hdone hlen
      go_loopw [42] (fun iv wr => ∃ (k : Nat) (K H : Nat → Bool), k ≤ n2 ∧ iv = .int .i64 k ∧ Below w1.heap.size w1 wr ∧ Hid (SixB wr w1.heap.size K) ∧ Hid (SixB wr (w1.heap.size + 1) H) ∧ Hid (Inv who what (y : Int) K H)) (fun iv _ => n2 - (intOf iv).toNat)
      case atStart => exact ⟨0, _, _, Nat.zero_le _, rfl, HB3.out, T1.out, T2.out, HIV.out⟩
      case round =>
        obtain ⟨k, K, H, hk, rfl, hbel, SK, SH, HI⟩ := hrel
        by_cases hlt : k < n2
        · rcases H2.out with h0 | ⟨b, off, rfl, hb0, hc⟩
          · omega
          rcases HD.out with h0 | ⟨bd, offd, rfl, hbd, hcd2⟩
          · rw [h0] at HL; have := HL.out; simp at this; omega
          obtain ⟨r, hr⟩ : ∃ r, r = acts.getD k act0 := ⟨_, rfl⟩
          have hbw := HB1.out.trans (hbel.mono HB1.out.size)
          have g1 := (hbw.cell (p := ⟨b, off + k * 3, none⟩) hb0).trans (hc k hlt).1
          have g2 := (hbw.cell (p := ⟨b, off + k * 3 + 1, none⟩) hb0).trans (hc k hlt).2.1
          have g3 := (hbw.cell (p := ⟨b, off + k * 3 + 2, none⟩) hb0).trans (hc k hlt).2.2
          have g4 := (hbel.cell (p := ⟨bd, offd + k, none⟩) hbd).trans (hcd2 k hlt)
          rw [← hr] at g1 g2 g3
          have hdk : done.getD k false = doneB who what r := by
            have hkl : k < acts.length := by rw [← N2.out]; exact hlt
            have e1 : acts[k] = r := by rw [hr]; simp [List.getD, hkl]
            rw [HDN.out]; simp [List.getD, hkl, e1]
          rw [hdk] at g4
          have hinr : inR who what r := by rw [hr]; exact HG.out.2.2.2.2.2 k (by rw [← N2.out]; exact hlt)
          have HIR := Lib.hid hinr
          clear hr hc hcd2 hdk hinr
          obtain ⟨rw_, rt, rb⟩ := r
          obtain ⟨i1, i2, i3, i4⟩ := HIR.out
          simp only at g1 g2 g3 i1 i2 i3 i4
          obtain ⟨x, rfl⟩ : ∃ x : Nat, rw_ = x := ⟨rw_.toNat, by omega⟩
          obtain ⟨z, rfl⟩ : ∃ z : Nat, rt = z := ⟨rt.toNat, by omega⟩
          have hx6 : (x : Int) < 6 := by have := HG.out.1; omega
          have hz6 : (z : Int) < 6 := by have := HG.out.2.1; omega
          obtain ⟨ob, hob⟩ : ∃ ob : Obj, ob = .cells #[.int .i64 x, .int .i64 z, .bool rb] 110 := ⟨_, rfl⟩
          have hA : Below wr.heap.size wr (wr.alloc ob) := (Below.refl _ _).alloc (Nat.le_refl _) _
          have g5 := (hA.cell (p := ⟨bd, offd + k, none⟩) (Nat.lt_of_lt_of_le hbd hbel.size)).trans g4
          rw [hob] at g5
          clear g4
          have SK1 := SK.out.keep hA
          have SH1 := SH.out.keep hA
          have kx := (SK1.2 x (by omega)).1
          have kf := (SK1.2 x (by omega)).2
          have hz := (SH1.2 z (by omega)).1
          have hf := (SH1.2 z (by omega)).2
          rw [hob] at kx kf hz hf
          have hbel1 := hbel.trans (hA.mono hbel.size)
          clear i1 i2 i3 i4 hbw
          have HKK := Lib.hid (show k + 1 ≤ n2 from hlt)
          have hn40 : n2 ≤ 40 := by rw [N2.out]; exact HG.out.2.2.1
          have HX6 := Lib.hid (show x < 6 by omega)
          have HZ6 := Lib.hid (show z < 6 by omega)
          have HBL := Lib.hid hbel1
          have SK2 := Lib.hid SK1
          have SH2 := Lib.hid SH1
          rw [hob] at SK2 SH2 HBL
          have HFR := Lib.hid (show (0 : Int) ≤ y ∧ (y : Int) < what.length from ⟨by omega, by rw [← N1.out]; omega⟩)
          clear hA SK1 SH1 hbel1
          by_cases hdo : doneB who what ⟨x, z, rb⟩ = true
          · have HDO := Lib.hid hdo
            rw [hdo] at g5
            clear hdo
            cases rb
            · rcases Bool.eq_false_or_eq_true (K x) with hKx | hKx
              · have HC := Lib.hid hKx
                rw [hKx] at kx
                clear hKx
                go_wp2_with fail
                go_region
                all_goals
                  go_wp2
                  go_roundw
                  case rel =>
                    refine ⟨k + 1, upd K x true, H, HKK.out, by go_num, Below.drew (Below.setCell HBL.out (by simp) _), SixB.drew (SK2.out.set HX6.out _), SixB.drew (SH2.out.other (by omega) _), ?_⟩
                    have h := inv_read HI.out HG.out.2.2.2.1 HG.out.2.2.2.2.1 HIR.out HFR.out.1 HFR.out.2 rfl HDO.out
                    simp only [Int.toNat_natCast, HC.out, Bool.true_or, Bool.false_or] at h
                    exact h
                  case measure => have := HKK.out; simp [intOf]; omega
              · have HC := Lib.hid hKx
                rw [hKx] at kx
                clear hKx
                go_wp2_with fail
                go_region
                all_goals
                  go_wp2
                  go_roundw
                  case rel =>
                    refine ⟨k + 1, upd K x (H z), H, HKK.out, by go_num, Below.drew (Below.setCell HBL.out (by simp) _), SixB.drew (SK2.out.set HX6.out _), SixB.drew (SH2.out.other (by omega) _), ?_⟩
                    have h := inv_read HI.out HG.out.2.2.2.1 HG.out.2.2.2.2.1 HIR.out HFR.out.1 HFR.out.2 rfl HDO.out
                    simp only [Int.toNat_natCast, HC.out, Bool.true_or, Bool.false_or] at h
                    exact h
                  case measure => have := HKK.out; simp [intOf]; omega
            · rcases Bool.eq_false_or_eq_true (H z) with hHz | hHz
              · have HC := Lib.hid hHz
                rw [hHz] at hz
                clear hHz
                go_wp2_with fail
                go_region
                all_goals
                  go_wp2
                  go_roundw
                  case rel =>
                    refine ⟨k + 1, K, upd H z true, HKK.out, by go_num, Below.drew (Below.setCell HBL.out (by simp) _), SixB.drew (SK2.out.other (by omega) _), SixB.drew (SH2.out.set HZ6.out _), ?_⟩
                    have h := inv_write HI.out HG.out.2.2.2.1 HG.out.2.2.2.2.1 HIR.out HFR.out.1 HFR.out.2 rfl HDO.out
                    simp only [Int.toNat_natCast, HC.out, Bool.true_or, Bool.false_or] at h
                    exact h
                  case measure => have := HKK.out; simp [intOf]; omega
              · have HC := Lib.hid hHz
                rw [hHz] at hz
                clear hHz
                go_wp2_with fail
                go_region
                all_goals
                  go_wp2
                  go_roundw
                  case rel =>
                    refine ⟨k + 1, K, upd H z (K x), HKK.out, by go_num, Below.drew (Below.setCell HBL.out (by simp) _), SixB.drew (SK2.out.other (by omega) _), SixB.drew (SH2.out.set HZ6.out _), ?_⟩
                    have h := inv_write HI.out HG.out.2.2.2.1 HG.out.2.2.2.2.1 HIR.out HFR.out.1 HFR.out.2 rfl HDO.out
                    simp only [Int.toNat_natCast, HC.out, Bool.true_or, Bool.false_or] at h
                    exact h
                  case measure => have := HKK.out; simp [intOf]; omega
          · have hdo' : doneB who what ⟨x, z, rb⟩ = false := by simpa using hdo
            rw [hdo'] at g5
            clear hdo hdo' kx kf hz hf
            go_wp2
            go_roundw
            case rel => exact ⟨k + 1, K, H, HKK.out, by go_num, HBL.out, SK2.out, SH2.out, HI.out⟩
            case measure => have := HKK.out; simp [intOf]; omega
        · obtain rfl : k = n2 := by omega
          clear hlt hk
          obtain ⟨wa, rfl⟩ : ∃ wa : World, wa = wr := ⟨_, rfl⟩
          obtain ⟨i0, hi, hz0, hz1, hz2⟩ := info_parts info3
          have HBW := Lib.hid (HB1.out.trans (hbel.mono HB1.out.size))
          have HBE := Lib.hid hbel
          clear hbel
          go_wp2_with fail
          go_loopw [17, 18, 81] (fun xv yv iv wb => ∃ (k : Nat) (xs ys : List Int), k ≤ 6 ∧ iv = .int .i64 k ∧ Below wa.heap.size wa wb ∧ wb.ownsRow wa.heap.size 3 1 xv xs.length (xs.map (Value.int .i64)) ∧ wb.ownsRow wa.heap.size 3 1 yv ys.length (ys.map (Value.int .i64)) ∧ Hid (Apart xv yv) ∧ Hid (∀ i ∈ xs, ∃ j : Nat, i = j ∧ K j = true) ∧ Hid (∀ i ∈ ys, ∃ j : Nat, i = j ∧ H j = true) ∧ Hid (y < k → (y : Int) ∈ ys) ∧ xs.length ≤ k ∧ ys.length ≤ k) (fun _ _ iv _ => 6 - (intOf iv).toNat)
          case atStart => exact ⟨0, [], [], by omega, rfl, Below.refl _ _, World.ownsRow_nil _ _ _ _, World.ownsRow_nil _ _ _ _, apart_nil _, fun i hi => absurd hi (List.not_mem_nil), fun i hi => absurd hi (List.not_mem_nil), fun h => absurd h (Nat.not_lt_zero _), Nat.le_refl _, Nat.le_refl _⟩
          case round =>
            obtain ⟨k, xs, ys, hk, rfl, hbl, hX, hY, hap, QX, QY, QM, lx, ly⟩ := hrel
            by_cases hlt : k < 6
            · have kx := ((SK.out.keep hbl).2 k hlt).1
              have hz := ((SH.out.keep hbl).2 k hlt).1
              rcases Bool.eq_false_or_eq_true (K k) with hKk | hKk <;> rcases Bool.eq_false_or_eq_true (H k) with hHk | hHk
              · rw [hKk] at kx
                rw [hHk] at hz
                have HKK := Lib.hid hKk
                have HHK := Lib.hid hHk
                clear hKk hHk
                go_wp2_with (at_builtin; refine wpList_append_fresh _ rfl (.tmp 87) (.tmp 89) 22 rfl wa.heap.size 3 i0 (.int .i64 0) 1 8 Try.underlying22 hi hz0 hz1 hz2 rfl (by decide) _ _ _ rfl (hX.alloc _) ⟨_, 0, none⟩ 1 1 [.int .i64 k] rfl rfl (cells1_new _ _ _) one1 (by unfold maxLen; omega) (by omega) (by have := hbl.size; simp; omega) ?_)
                intro v7 w7 own7 grow7 fresh7
                have hbl7 : Below wa.heap.size wa w7 := (hbl.alloc hbl.size _).grown grow7 (by have := hbl.size; simp; omega) (fun g hg => (hX.lt g hg).1)
                have hX7 : w7.ownsRow wa.heap.size 3 1 v7 (xs ++ [(k : Int)]).length ((xs ++ [(k : Int)]).map (Value.int .i64)) := by simpa using own7
                obtain ⟨hY7, hap7⟩ := kept_apart (hY.alloc _) grow7 (fresh7.imp id fun ⟨g, h, e⟩ => ⟨g, by simpa using h, e⟩) hap.out
                have AP7 := Lib.hid hap7
                have hz7 := ((SH.out.keep hbl7).2 k hlt).1
                rw [HHK.out] at hz7
                clear own7 grow7 fresh7 hap7 kx hz hX hY hbl
                go_wp2_with (at_builtin; refine wpList_append_fresh _ rfl (.tmp 94) (.tmp 96) 22 rfl wa.heap.size 3 i0 (.int .i64 0) 1 8 Try.underlying22 hi hz0 hz1 hz2 rfl (by decide) _ _ _ rfl (hY7.alloc _) ⟨_, 0, none⟩ 1 1 [.int .i64 k] rfl rfl (cells1_new _ _ _) one1 (by unfold maxLen; omega) (by omega) (by have := hbl7.size; simp; omega) ?_)
                intro v8 w8 own8 grow8 fresh8
                have hbl8 : Below wa.heap.size wa w8 := (hbl7.alloc hbl7.size _).grown grow8 (by have := hbl7.size; simp; omega) (fun g hg => (hY7.lt g hg).1)
                have hY8 : w8.ownsRow wa.heap.size 3 1 v8 (ys ++ [(k : Int)]).length ((ys ++ [(k : Int)]).map (Value.int .i64)) := by simpa using own8
                obtain ⟨hX8, hap8⟩ := kept_apart (hX7.alloc _) grow8 (fresh8.imp id fun ⟨g, h, e⟩ => ⟨g, by simpa using h, e⟩) (Apart.symm AP7.out)
                have AP8 := Lib.hid (Apart.symm hap8)
                clear own8 grow8 fresh8 hap8 hX7 hY7 hbl7 hz7
                go_wp2
                go_roundw
                case rel =>
                  exact ⟨k + 1, (xs ++ [(k : Int)]), (ys ++ [(k : Int)]), by omega, by go_num, hbl8, hX8, hY8, AP8.out, fun i hi => by rcases List.mem_append.1 hi with h | h; exact QX.out i h; rw [List.mem_singleton] at h; exact ⟨k, h, HKK.out⟩, fun i hi => by rcases List.mem_append.1 hi with h | h; exact QY.out i h; rw [List.mem_singleton] at h; exact ⟨k, h, HHK.out⟩, fun h => by rcases Nat.lt_succ_iff_lt_or_eq.1 h with h | h; exact List.mem_append_left _ (QM.out h); exact List.mem_append_right _ (by rw [h]; exact List.mem_singleton.2 rfl), by first | omega | (simp; omega), by first | omega | (simp; omega)⟩
                case measure => simp [intOf]; omega
              · rw [hKk] at kx
                rw [hHk] at hz
                have HKK := Lib.hid hKk
                have HHK := Lib.hid hHk
                clear hKk hHk
                go_wp2_with (at_builtin; refine wpList_append_fresh _ rfl (.tmp 87) (.tmp 89) 22 rfl wa.heap.size 3 i0 (.int .i64 0) 1 8 Try.underlying22 hi hz0 hz1 hz2 rfl (by decide) _ _ _ rfl (hX.alloc _) ⟨_, 0, none⟩ 1 1 [.int .i64 k] rfl rfl (cells1_new _ _ _) one1 (by unfold maxLen; omega) (by omega) (by have := hbl.size; simp; omega) ?_)
                intro v7 w7 own7 grow7 fresh7
                have hbl7 : Below wa.heap.size wa w7 := (hbl.alloc hbl.size _).grown grow7 (by have := hbl.size; simp; omega) (fun g hg => (hX.lt g hg).1)
                have hX7 : w7.ownsRow wa.heap.size 3 1 v7 (xs ++ [(k : Int)]).length ((xs ++ [(k : Int)]).map (Value.int .i64)) := by simpa using own7
                obtain ⟨hY7, hap7⟩ := kept_apart (hY.alloc _) grow7 (fresh7.imp id fun ⟨g, h, e⟩ => ⟨g, by simpa using h, e⟩) hap.out
                have AP7 := Lib.hid hap7
                have hz7 := ((SH.out.keep hbl7).2 k hlt).1
                rw [HHK.out] at hz7
                clear own7 grow7 fresh7 hap7 kx hz hX hY hbl
                go_wp2
                go_roundw
                case rel =>
                  exact ⟨k + 1, (xs ++ [(k : Int)]), ys, by omega, by go_num, hbl7, hX7, hY7, AP7.out, fun i hi => by rcases List.mem_append.1 hi with h | h; exact QX.out i h; rw [List.mem_singleton] at h; exact ⟨k, h, HKK.out⟩, QY.out, fun h => by rcases Nat.lt_succ_iff_lt_or_eq.1 h with h | h; exact QM.out h; (exfalso; rw [← h, show H y = true from by have := HI.out.fr; simpa using this] at HHK; cases HHK.out), by first | omega | (simp; omega), by first | omega | (simp; omega)⟩
                case measure => simp [intOf]; omega
              · rw [hKk] at kx
                rw [hHk] at hz
                have HKK := Lib.hid hKk
                have HHK := Lib.hid hHk
                clear hKk hHk
                go_wp2_with (at_builtin; refine wpList_append_fresh _ rfl (.tmp 94) (.tmp 96) 22 rfl wa.heap.size 3 i0 (.int .i64 0) 1 8 Try.underlying22 hi hz0 hz1 hz2 rfl (by decide) _ _ _ rfl (hY.alloc _) ⟨_, 0, none⟩ 1 1 [.int .i64 k] rfl rfl (cells1_new _ _ _) one1 (by unfold maxLen; omega) (by omega) (by have := hbl.size; simp; omega) ?_)
                intro v8 w8 own8 grow8 fresh8
                have hbl8 : Below wa.heap.size wa w8 := (hbl.alloc hbl.size _).grown grow8 (by have := hbl.size; simp; omega) (fun g hg => (hY.lt g hg).1)
                have hY8 : w8.ownsRow wa.heap.size 3 1 v8 (ys ++ [(k : Int)]).length ((ys ++ [(k : Int)]).map (Value.int .i64)) := by simpa using own8
                obtain ⟨hX8, hap8⟩ := kept_apart (hX.alloc _) grow8 (fresh8.imp id fun ⟨g, h, e⟩ => ⟨g, by simpa using h, e⟩) (Apart.symm hap.out)
                have AP8 := Lib.hid (Apart.symm hap8)
                clear own8 grow8 fresh8 hap8 hX hY hbl kx hz
                go_wp2
                go_roundw
                case rel =>
                  exact ⟨k + 1, xs, (ys ++ [(k : Int)]), by omega, by go_num, hbl8, hX8, hY8, AP8.out, QX.out, fun i hi => by rcases List.mem_append.1 hi with h | h; exact QY.out i h; rw [List.mem_singleton] at h; exact ⟨k, h, HHK.out⟩, fun h => by rcases Nat.lt_succ_iff_lt_or_eq.1 h with h | h; exact List.mem_append_left _ (QM.out h); exact List.mem_append_right _ (by rw [h]; exact List.mem_singleton.2 rfl), by first | omega | (simp; omega), by first | omega | (simp; omega)⟩
                case measure => simp [intOf]; omega
              · rw [hKk] at kx
                rw [hHk] at hz
                have HKK := Lib.hid hKk
                have HHK := Lib.hid hHk
                clear hKk hHk
                go_wp2
                go_roundw
                case rel =>
                  exact ⟨k + 1, xs, ys, by omega, by go_num, hbl, hX, hY, hap.out, QX.out, QY.out, fun h => by rcases Nat.lt_succ_iff_lt_or_eq.1 h with h | h; exact QM.out h; (exfalso; rw [← h, show H y = true from by have := HI.out.fr; simpa using this] at HHK; cases HHK.out), by first | omega | (simp; omega), by first | omega | (simp; omega)⟩
                case measure => simp [intOf]; omega
            · obtain rfl : k = 6 := by omega
              go_wp2
              refine bodyPost_ret (v := .tuple #[_, _, .int .i64 0]) (by simp [results, Try.results28, go_sem]) rfl ⟨_, _, 0, xs, ys, rfl, HBW.out.trans (hbl.mono HBW.out.size), at_of_owned hX, at_of_owned hY, .inl ⟨rfl, ⟨by omega, by rw [← N1.out]; omega⟩, HG.out.1, HG.out.2.1, HG.out.2.2.2.1, HG.out.2.2.2.2.1, fun i hi => ?_, fun i hi => ?_, QM.out (by omega), ly⟩⟩
              · obtain ⟨j, rfl, hj⟩ := QX.out i hi
                have := HI.out.k j hj
                exact ⟨by omega, by omega, by simpa [at_] using this.2⟩
              · obtain ⟨j, rfl, hj⟩ := QY.out i hi
                have := HI.out.h j hj
                exact ⟨by omega, by omega, by simpa [at_] using this.2⟩
    · have hcase : fr < 0 ∨ (0 ≤ fr ∧ (n1 : Int) ≤ fr) := by omega
      clear hfr hgood l6 m6 k40 okw okt hdone hin
      rcases hcase with hh | hh
      all_goals
        go_wp2
        refine bodyPost_ret (v := .tuple #[.slice none 0 0, .slice none 0 0, .int .i64 4]) (by simp [results, Try.results28, go_sem]) rfl (taintPost_bad (by decide) HB1.out)
  · have hen' : (en != 0) = true := by simp [hen]
    have HE := Lib.hid hen
    clear hen hgood
    go_wp2
    refine bodyPost_ret (v := .tuple #[.slice none 0 0, .slice none 0 0, .int .i64 en]) (by simp [results, Try.results28, go_sem]) rfl (taintPost_bad HE.out HB1.out)
end Go.Proofs.Ytgdihccmkleimaa.LabelLaw
