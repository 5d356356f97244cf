/- The walk of the law PathDots. -/
import Derived.Test.YtjkephmfpoekgaaDoorPathUpW
import Derived.Test.YtjkephmfpoekgaaDoorPathJoin
namespace Go.Proofs.YtjkephmfpoekgaaDoor.PathLaw
open Go.RowKit Go.Proofs.YtjkephmfpoekgaaDoor.CredLaw
set_option linter.unusedVariables false
set_option linter.unusedSimpArgs false
theorem rep_is (s : ByteArray) (m : Int) (w : World) (hs : s.size ≤ 1048576) (hm : w.cell? ⟨0, 0, none⟩ = some (.int .i64 m)) : ∃ R : ByteArray, R.data.toList = rep s.data.toList ∧ Calls Tryd.prog 11 #[.string s, .string ⟨#[47]⟩, .string ⟨#[47, 47, 46, 47]⟩] w fun e w' => e = .returned (.string R) ∧ Below w.heap.size w w' := by
  refine ⟨⟨(rep s.data.toList).toArray⟩, rfl, ?_⟩
  have hc : Lib.countB s ⟨#[47]⟩ ≤ 1048577 := by
    have := Lib.count_le s.data.toList (⟨#[47]⟩ : ByteArray).data.toList
    have e : s.data.toList.length = s.size := by simp
    show Lib.count _ _ ≤ _
    omega
  have h4 : (⟨#[47, 47, 46, 47]⟩ : ByteArray).size = 4 := rfl
  refine (Tryd.strings_ReplaceAll s ⟨#[47]⟩ ⟨#[47, 47, 46, 47]⟩ m w (by omega) hm (by decide) (by rw [h4]; omega)).mono fun e w' ⟨h1, h2⟩ => ⟨?_, h2⟩
  rw [h1]
  have := replaceAll_rep s.data.toList
  unfold new4 at this
  show Ending.returned (.string ⟨(Lib.replaceAll s.data.toList [47] [47, 47, 46, 47]).toArray⟩) = _
  rw [this]
set_option maxRecDepth 100000 in
set_option maxHeartbeats 1000000 in
theorem pathdots_any {w : World} {T : List Nd} {tv : Value} {c : C} {mv cv : Value} {cwd : List Int} {s : ByteArray} {m : Int} (ht : TreeS w tv T) (hmo : At (Value.int .i64) 0 w mv c.xs) (hcw : At (Value.int .i64) 0 w cv cwd) (hbig : cwd.length + 288 ≤ 17592186044416) (hm : w.cell? ⟨0, 0, none⟩ = some (.int .i64 m)) (hs : s.size ≤ 1048576) :
    Calls Tryd.prog 5 #[tv, encC c mv, cv, .string s] w fun e w' => e = .returned (.bool true) ∧ Below w.heap.size w w' := by
  obtain ⟨na, nc, rfl, -⟩ := id ht
  have hbx := BX.new w (.slice na T.length nc) mv c
  obtain ⟨ca, cc, rfl, -⟩ := id hcw
  have hwy := fun (wx : World) (hb : Below w.heap.size w wx) (s' : ByteArray) => way_is (c := c) (s := s') true (ht.keep hb) (hmo.keep hb) (hcw.keep hb) hbig ((hb.cell (p := ⟨0, 0, none⟩) (World.block_lt_of_cell? w _ hm)).trans hm)
  have hpa := fun (wx : World) (hb : Below w.heap.size w wx) => paths_is (w := wx) ((hb.cell (p := ⟨0, 0, none⟩) (World.block_lt_of_cell? w _ hm)).trans hm)
  have hre := fun (wx : World) (hb : Below w.heap.size w wx) => rep_is s m wx hs ((hb.cell (p := ⟨0, 0, none⟩) (World.block_lt_of_cell? w _ hm)).trans hm)
  have hsf := fun (wx : World) => (Tryd.strings_HasSuffix s ⟨#[47]⟩ wx (by omega)).mono (R' := fun e w' => e = .returned (.bool (Lib.hasSuffix s.data.toList [47])) ∧ wx = w') fun e w' ⟨h1, h2⟩ => ⟨h1, h2.symm⟩
  simp only [encC] at hwy ⊢
  have HBX := Lib.hid hbx
  have HWY := Lib.hid hwy
  have HPA := Lib.hid hpa
  have HRE := Lib.hid hre
  have HSF := Lib.hid hsf
  clear hbx hwy hpa ht hmo hcw hm hre hsf
  go_enter Tryd.func5, Tryd.ntmps5
  go_upto_region 3 with (go_at_call 6; refine (HPA.out _ HBX.out.be).mono ?_; rintro e1 w1 ⟨rfl, hb1⟩)
  have HX1 := Lib.hid (HBX.out.keep hb1)
  clear hb1 HPA HBX
  have b0 := HX1.out.c0
  have b1 := HX1.out.d0
  have b2 := HX1.out.d1
  have b3 := HX1.out.d2
  have b4 := HX1.out.d3
  have b5 := HX1.out.d4
  have b6 := HX1.out.d5
  go_upto_region 4 with (go_at_call 7; refine (HWY.out w1 HX1.out.be _).mono ?_; rintro e1 w2 ⟨v1, rfl, hb1, ho1⟩; obtain ⟨a1, k1, rfl⟩ := own_form ho1)
  have HX2 := Lib.hid (HX1.out.keep hb1)
  have HO1 := Lib.hid ho1
  clear b0 b1 b2 b3 b4 b5 b6 ho1 hb1
  obtain ⟨R, hR, hre⟩ := HRE.out w2 HX2.out.be
  have HRR := Lib.hid hR
  have HREP := Lib.hid hre
  have HRS := Lib.hid (show R.data.toList.length = R.size by simp)
  clear hR hre
  go_upto_region 5 with (go_at_call 11; refine HREP.out.mono ?_; rintro e3 w3 ⟨rfl, hb3⟩)
  have HX3 := Lib.hid (HX2.out.keep hb3)
  have HO13 := Lib.hid (owns_keep HO1.out hb3)
  clear hb3 HREP HRE HO1
  have b0 := HX3.out.c0
  have b1 := HX3.out.d0
  have b2 := HX3.out.d1
  have b3 := HX3.out.d2
  have b4 := HX3.out.d3
  have b5 := HX3.out.d4
  have b6 := HX3.out.d5
  go_upto_region 6 with (go_at_call 7; refine (HWY.out w3 HX3.out.be _).mono ?_; rintro e4 w4 ⟨v4, rfl, hb4, ho4⟩; obtain ⟨a4, k4, rfl⟩ := own_form ho4)
  have HX4 := Lib.hid (HX3.out.keep hb4)
  have HO14 := Lib.hid (owns_keep HO13.out hb4)
  have HO44 := Lib.hid ho4
  have HJ := Lib.hid (fun L h => dots_law (F := fsT T) (c := c) (cwd := cwd) (L := L) (s := s.data.toList) h)
  have HE := Lib.hid (wayT_err (F := fsT T) (c := c) (f := true) (cwd := cwd) (s := s.data.toList))
  rw [← HRR.out, HRS.out] at HJ
  clear b0 b1 b2 b3 b4 b5 b6 ho4 hb4 HO13 HRS HRR
  generalize wayT (fsT T) c true cwd s.data.toList = A at *
  generalize wayT (fsT T) c true cwd R.data.toList = B at *
  obtain ⟨e, L⟩ := A
  obtain ⟨f, M⟩ := B
  dsimp only at *
  by_cases he : e = 0
  · subst he
    rcases HJ.out L rfl with ⟨h1, rfl⟩ | ⟨h1, h2 | ⟨h2, h3⟩⟩
    · have i1 : (64 : Int) < (R.size : Int) := by omega
      clear h1
      go_wp2_with fail
      go_ret
      exact ⟨rfl, HX4.out.be⟩
    · have i1 : ¬ ((64 : Int) < (R.size : Int)) := by omega
      obtain ⟨rfl, rfl⟩ := Prod.mk.inj h2
      have heq := eq_ints (StkO.at (show StkO w4 w1.heap.size _ M from HO14.out)) (StkO.at (show StkO w4 w3.heap.size _ M from HO44.out))
      rw [show (M == M) = true by simp] at heq
      have HEQ := Lib.hid heq
      clear h1 h2 heq
      go_wp2_with (go_at_call 8; refine HEQ.out.mono ?_; rintro e8 w8 ⟨rfl, q, rfl⟩)
      go_ret
      exact ⟨rfl, below_drewN HX4.out.be q⟩
    · have i1 : ¬ ((64 : Int) < (R.size : Int)) := by omega
      have f1 : (f == 0) = false := by simp [h2]
      have f2 : (f != 0) = true := by simp [h2]
      have hsf := HSF.out w4
      rw [h3] at hsf
      have HSF2 := Lib.hid hsf
      clear h1 h2 h3 hsf
      go_wp2_with (go_at_call 12; refine HSF2.out.mono ?_; rintro e8 w8 ⟨rfl, rfl⟩)
      go_ret
      exact ⟨rfl, HX4.out.be⟩
  · obtain rfl : L = [] := HE.out he
    have he' : (e != 0) = true := by simp [he]
    clear he
    simp only [List.length_nil]
    go_wp2_with fail
    go_ret
    exact ⟨rfl, HX4.out.be⟩
end Go.Proofs.YtjkephmfpoekgaaDoor.PathLaw
