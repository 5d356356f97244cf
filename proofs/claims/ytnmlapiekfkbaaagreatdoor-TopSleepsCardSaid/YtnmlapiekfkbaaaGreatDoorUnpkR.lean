/- The walk of inode.Unpack at the root. Printed by gen_unpk.py. -/
import Derived.Test.YtnmlapiekfkbaaaGreatDoorInode3
import Derived.Deep.RegionHeld3
namespace Go.Proofs.YtnmlapiekfkbaaaGreatDoor
open Go.RowKit
set_option linter.unusedVariables false
set_option linter.unusedSimpArgs false
theorem st_ino1 (p v : Value) : Instr.storeAt 171 p v = stR 171 p v := rfl
attribute [local go_sem ↓] ld_ino st_ino1
set_option maxRecDepth 100000 in
set_option maxHeartbeats 4000000 in
theorem iunpack1_is {w : World} {v : Value} (hv : At (Value.int .u8) 0 w v rootL) : Calls Tryz.prog 158 #[v] w fun e w' => e = .returned (.tuple #[.agg (nodeA 2 493 1 1), .int .i64 0]) ∧ Below w.heap.size w w' := by
  have HV := Lib.hid hv
  obtain ⟨a, cap, rfl, hl, hcm, -⟩ := hv
  rw [show rootL.length = 32 from rfl] at hl HV ⊢
  rcases At.cellB HV.out with e | ⟨b, o, rfl, hlt, hc⟩
  · cases e
  have HC := Lib.hid hc
  have HLT := Lib.hid hlt
  have HCM := Lib.hid hcm
  clear hc hlt hcm
  go_enter Tryz.func158, Tryz.ntmps158
  go_upto_region 3 with fail
  have HB0 := Lib.hid (Go.Joins.below_alloc1 w (.cells #[.int .i64 0, .int .i64 0, .int .i64 0, .int .i64 0, .int .i64 0, .int .i64 0, .int .i64 0, .slice none 0 0] 171))
  have HR0 : Hid (Row (w.alloc (.cells #[.int .i64 0, .int .i64 0, .int .i64 0, .int .i64 0, .int .i64 0, .int .i64 0, .int .i64 0, .slice none 0 0] 171)) w.heap.size 171 (nodeA 0 0 0 0)) := Lib.hid (row_new w _ _)
  have HV0 := Lib.hid (HV.out.keep HB0.out)
  have HLT0 : Hid (b < (w.alloc (.cells #[.int .i64 0, .int .i64 0, .int .i64 0, .int .i64 0, .int .i64 0, .int .i64 0, .int .i64 0, .slice none 0 0] 171)).heap.size) := Lib.hid (Nat.lt_of_lt_of_le HLT.out HB0.out.size)
  have HC0 : Hid (∀ i, i < 32 → (w.alloc (.cells #[.int .i64 0, .int .i64 0, .int .i64 0, .int .i64 0, .int .i64 0, .int .i64 0, .int .i64 0, .slice none 0 0] 171)).cell? ⟨b, o + i, none⟩ = some (.int .u8 (rootL.getD i 0))) := Lib.hid (fun i hi => by rw [HB0.out.cell (p := ⟨b, o + i, none⟩) HLT.out, HC.out i hi])
  generalize w.alloc (.cells #[.int .i64 0, .int .i64 0, .int .i64 0, .int .i64 0, .int .i64 0, .int .i64 0, .int .i64 0, .slice none 0 0] 171) = w0 at *
  have HS : Hid (w0.cell? ⟨b, o, none⟩ = some (.int .u8 2) ∧ w0.cell? ⟨b, o + 1, none⟩ = some (.int .u8 237) ∧ w0.cell? ⟨b, o + 2, none⟩ = some (.int .u8 1) ∧ w0.cell? ⟨b, o + 3, none⟩ = some (.int .u8 0) ∧ w0.cell? ⟨b, o + 4, none⟩ = some (.int .u8 0) ∧ w0.cell? ⟨b, o + 5, none⟩ = some (.int .u8 0) ∧ w0.cell? ⟨b, o + 6, none⟩ = some (.int .u8 0) ∧ w0.cell? ⟨b, o + 7, none⟩ = some (.int .u8 1) ∧ w0.cell? ⟨b, o + 8, none⟩ = some (.int .u8 1)) := Lib.hid ⟨HC0.out 0 (by decide), HC0.out 1 (by decide), HC0.out 2 (by decide), HC0.out 3 (by decide), HC0.out 4 (by decide), HC0.out 5 (by decide), HC0.out 6 (by decide), HC0.out 7 (by decide), HC0.out 8 (by decide)⟩
  have HSA : Hid (∀ ob, (w0.alloc ob).cell? ⟨b, o, none⟩ = some (.int .u8 2) ∧ (w0.alloc ob).cell? ⟨b, o + 1, none⟩ = some (.int .u8 237) ∧ (w0.alloc ob).cell? ⟨b, o + 2, none⟩ = some (.int .u8 1) ∧ (w0.alloc ob).cell? ⟨b, o + 3, none⟩ = some (.int .u8 0) ∧ (w0.alloc ob).cell? ⟨b, o + 4, none⟩ = some (.int .u8 0) ∧ (w0.alloc ob).cell? ⟨b, o + 5, none⟩ = some (.int .u8 0) ∧ (w0.alloc ob).cell? ⟨b, o + 6, none⟩ = some (.int .u8 0) ∧ (w0.alloc ob).cell? ⟨b, o + 7, none⟩ = some (.int .u8 1) ∧ (w0.alloc ob).cell? ⟨b, o + 8, none⟩ = some (.int .u8 1)) := Lib.hid (fun ob => by
    have h := HS.out
    have k : ∀ j, (w0.alloc ob).cell? ⟨b, j, none⟩ = w0.cell? ⟨b, j, none⟩ := fun j => World.cell?_alloc_lt _ _ _ HLT0.out
    simp only [k]
    exact h)
  have HR1 : Hid (Row ((w0.alloc (.cells #[.int .i64 0, .int .i64 0, .int .i64 0, .int .i64 0, .int .i64 0, .int .i64 0, .int .i64 0, .slice none 0 0] 171)).drew) w0.heap.size 171 #[.int .i64 0, .int .i64 0, .int .i64 0, .int .i64 0, .int .i64 0, .int .i64 0, .int .i64 0, .slice none 0 0]) := Lib.hid (row_new w0 171 #[.int .i64 0, .int .i64 0, .int .i64 0, .int .i64 0, .int .i64 0, .int .i64 0, .int .i64 0, .slice none 0 0]).drew
  have eN : #[.int .i64 (IntKind.i64.wrap 2), .int .i64 (bits BinOp.or IntKind.i64 (IntKind.i64.wrap 237) (IntKind.i64.wrap ((IntKind.i64.wrap 1) * 256))), .int .i64 (IntKind.i64.wrap 0), .int .i64 (IntKind.i64.wrap 0), .int .i64 (bits BinOp.or IntKind.i64 (IntKind.i64.wrap 0) (IntKind.i64.wrap ((IntKind.i64.wrap 0) * 256))), .int .i64 (IntKind.i64.wrap 1), .int .i64 (IntKind.i64.wrap 1), .slice none 0 0] = (nodeA 2 493 1 1) := by rfl
  have stn : (stR 171 (.pointer (some ⟨w0.heap.size, 0, none⟩)) (.agg #[.int .i64 (IntKind.i64.wrap 2), .int .i64 (bits BinOp.or IntKind.i64 (IntKind.i64.wrap 237) (IntKind.i64.wrap ((IntKind.i64.wrap 1) * 256))), .int .i64 (IntKind.i64.wrap 0), .int .i64 (IntKind.i64.wrap 0), .int .i64 (bits BinOp.or IntKind.i64 (IntKind.i64.wrap 0) (IntKind.i64.wrap ((IntKind.i64.wrap 0) * 256))), .int .i64 (IntKind.i64.wrap 1), .int .i64 (IntKind.i64.wrap 1), .slice none 0 0])).run Tryz.prog ((w0.alloc (.cells #[.int .i64 0, .int .i64 0, .int .i64 0, .int .i64 0, .int .i64 0, .int .i64 0, .int .i64 0, .slice none 0 0] 171)).drew) = .ok () (((w0.alloc (.cells #[.int .i64 0, .int .i64 0, .int .i64 0, .int .i64 0, .int .i64 0, .int .i64 0, .int .i64 0, .slice none 0 0] 171)).drew).setRow w0.heap.size (nodeA 2 493 1 1)) := by
    rw [HR1.out.st0 (cs := #[.int .i64 (IntKind.i64.wrap 2), .int .i64 (bits BinOp.or IntKind.i64 (IntKind.i64.wrap 237) (IntKind.i64.wrap ((IntKind.i64.wrap 1) * 256))), .int .i64 (IntKind.i64.wrap 0), .int .i64 (IntKind.i64.wrap 0), .int .i64 (bits BinOp.or IntKind.i64 (IntKind.i64.wrap 0) (IntKind.i64.wrap ((IntKind.i64.wrap 0) * 256))), .int .i64 (IntKind.i64.wrap 1), .int .i64 (IntKind.i64.wrap 1), .slice none 0 0]) rfl (by kernel_rfl) (by rw [eN]; simp [nodeA, Value.oneCell']), eN]
  have HR2 := Lib.hid (HR1.out.setRow (nodeA 2 493 1 1))
  have HW2 := Lib.hid (((Go.Joins.below_alloc1 w0 (.cells #[.int .i64 0, .int .i64 0, .int .i64 0, .int .i64 0, .int .i64 0, .int .i64 0, .int .i64 0, .slice none 0 0] 171)).drew).trans (Upd.toBelow (Upd.setRow ((w0.alloc (.cells #[.int .i64 0, .int .i64 0, .int .i64 0, .int .i64 0, .int .i64 0, .int .i64 0, .int .i64 0, .slice none 0 0] 171)).drew) (b := w0.heap.size) (nodeA 2 493 1 1) (S := fun k => k = w0.heap.size) rfl) (by simp [World.drew]) (by omega)))
  have HS2 : Hid ((((w0.alloc (.cells #[.int .i64 0, .int .i64 0, .int .i64 0, .int .i64 0, .int .i64 0, .int .i64 0, .int .i64 0, .slice none 0 0] 171)).drew).setRow w0.heap.size (nodeA 2 493 1 1)).cell? ⟨b, o, none⟩ = some (.int .u8 2) ∧ (((w0.alloc (.cells #[.int .i64 0, .int .i64 0, .int .i64 0, .int .i64 0, .int .i64 0, .int .i64 0, .int .i64 0, .slice none 0 0] 171)).drew).setRow w0.heap.size (nodeA 2 493 1 1)).cell? ⟨b, o + 1, none⟩ = some (.int .u8 237) ∧ (((w0.alloc (.cells #[.int .i64 0, .int .i64 0, .int .i64 0, .int .i64 0, .int .i64 0, .int .i64 0, .int .i64 0, .slice none 0 0] 171)).drew).setRow w0.heap.size (nodeA 2 493 1 1)).cell? ⟨b, o + 2, none⟩ = some (.int .u8 1) ∧ (((w0.alloc (.cells #[.int .i64 0, .int .i64 0, .int .i64 0, .int .i64 0, .int .i64 0, .int .i64 0, .int .i64 0, .slice none 0 0] 171)).drew).setRow w0.heap.size (nodeA 2 493 1 1)).cell? ⟨b, o + 3, none⟩ = some (.int .u8 0) ∧ (((w0.alloc (.cells #[.int .i64 0, .int .i64 0, .int .i64 0, .int .i64 0, .int .i64 0, .int .i64 0, .int .i64 0, .slice none 0 0] 171)).drew).setRow w0.heap.size (nodeA 2 493 1 1)).cell? ⟨b, o + 4, none⟩ = some (.int .u8 0) ∧ (((w0.alloc (.cells #[.int .i64 0, .int .i64 0, .int .i64 0, .int .i64 0, .int .i64 0, .int .i64 0, .int .i64 0, .slice none 0 0] 171)).drew).setRow w0.heap.size (nodeA 2 493 1 1)).cell? ⟨b, o + 5, none⟩ = some (.int .u8 0) ∧ (((w0.alloc (.cells #[.int .i64 0, .int .i64 0, .int .i64 0, .int .i64 0, .int .i64 0, .int .i64 0, .int .i64 0, .slice none 0 0] 171)).drew).setRow w0.heap.size (nodeA 2 493 1 1)).cell? ⟨b, o + 6, none⟩ = some (.int .u8 0) ∧ (((w0.alloc (.cells #[.int .i64 0, .int .i64 0, .int .i64 0, .int .i64 0, .int .i64 0, .int .i64 0, .int .i64 0, .slice none 0 0] 171)).drew).setRow w0.heap.size (nodeA 2 493 1 1)).cell? ⟨b, o + 7, none⟩ = some (.int .u8 1) ∧ (((w0.alloc (.cells #[.int .i64 0, .int .i64 0, .int .i64 0, .int .i64 0, .int .i64 0, .int .i64 0, .int .i64 0, .slice none 0 0] 171)).drew).setRow w0.heap.size (nodeA 2 493 1 1)).cell? ⟨b, o + 8, none⟩ = some (.int .u8 1)) := Lib.hid (by
    have h := HS.out
    have k : ∀ j, ((((w0.alloc (.cells #[.int .i64 0, .int .i64 0, .int .i64 0, .int .i64 0, .int .i64 0, .int .i64 0, .int .i64 0, .slice none 0 0] 171)).drew).setRow w0.heap.size (nodeA 2 493 1 1))).cell? ⟨b, j, none⟩ = w0.cell? ⟨b, j, none⟩ := fun j => HW2.out.cell (p := ⟨b, j, none⟩) HLT0.out
    simp only [k]
    exact h)
  clear HC eN
  generalize hw2 : ((w0.alloc (.cells #[.int .i64 0, .int .i64 0, .int .i64 0, .int .i64 0, .int .i64 0, .int .i64 0, .int .i64 0, .slice none 0 0] 171)).drew).setRow w0.heap.size (nodeA 2 493 1 1) = w2 at *
  clear hw2
  go_region_held3 (fun wx => wx.cell? ⟨b, o, none⟩ = some (.int .u8 2) ∧ wx.cell? ⟨b, o + 1, none⟩ = some (.int .u8 237) ∧ wx.cell? ⟨b, o + 2, none⟩ = some (.int .u8 1) ∧ wx.cell? ⟨b, o + 3, none⟩ = some (.int .u8 0) ∧ wx.cell? ⟨b, o + 4, none⟩ = some (.int .u8 0) ∧ wx.cell? ⟨b, o + 5, none⟩ = some (.int .u8 0) ∧ wx.cell? ⟨b, o + 6, none⟩ = some (.int .u8 0) ∧ wx.cell? ⟨b, o + 7, none⟩ = some (.int .u8 1) ∧ wx.cell? ⟨b, o + 8, none⟩ = some (.int .u8 1)) (first | assumption | exact HS.out | exact HSA.out _ | exact HS2.out) (first | fail)
  clear stn HS HSA HR1 HS2
  have HLZ : Hid (w.heap.size < w0.heap.size) := Lib.hid HR0.out.lt
  have HR02 := Lib.hid (HR0.out.keep HW2.out)
  have HV2 := Lib.hid (HV0.out.keep HW2.out)
  have HB2 := Lib.hid (HB0.out.trans (HW2.out.mono HB0.out.size))
  obtain ⟨q, hq⟩ : ∃ q, q = w0.heap.size := ⟨_, rfl⟩
  have HX : Hid (At (Value.int .u8) 0 w2 (.slice (some ⟨b, o + 9, none⟩) 16 (cap - 9)) (zeros 16)) := Lib.hid (by
    refine ⟨_, _, rfl, by rw [zeros_len]; omega, by have := HCM.out; omega, .inr ⟨b, o + 9, rfl, Nat.lt_of_lt_of_le HLT0.out HW2.out.size, fun i hi => ?_⟩⟩
    rw [zeros_len] at hi
    rw [HW2.out.cell (p := ⟨b, o + 9 + i, none⟩) HLT0.out, show o + 9 + i = o + (9 + i) by omega, HC0.out (9 + i) (by omega), zeros_get]
    have : i = 0 ∨ i = 1 ∨ i = 2 ∨ i = 3 ∨ i = 4 ∨ i = 5 ∨ i = 6 ∨ i = 7 ∨ i = 8 ∨ i = 9 ∨ i = 10 ∨ i = 11 ∨ i = 12 ∨ i = 13 ∨ i = 14 ∨ i = 15 := by omega
    rcases this with rfl | rfl | rfl | rfl | rfl | rfl | rfl | rfl | rfl | rfl | rfl | rfl | rfl | rfl | rfl | rfl <;> rfl)
  have HXU := Lib.hid (xunpack_is HX.out)
  clear HC0 HR0 HV0 HV HB0 HX HW2
  have b1 : 25 ≤ cap := by omega
  have b2 : ¬ cap = 9 := by omega
  clear hq
  go_upto_region 5 with (go_at_call 236; refine HXU.out.mono ?_; rintro e3 w3 ⟨rfl, hb3⟩)
  have HB3 := Lib.hid (HB2.out.trans (hb3.mono HB2.out.size))
  have HR3 := Lib.hid (HR2.out.keep hb3)
  have HR03 := Lib.hid (HR02.out.keep hb3)
  have HV3 := Lib.hid (HV2.out.keep hb3)
  clear HB2 HR2 HR02 HV2 HXU hb3
  have c7 : w3.cell? ⟨w0.heap.size, 7, none⟩ = some (.slice none 0 0) := by rw [HR3.out.cell]; rfl
  have f7 := HR3.out.fz 7
  have u4 : Upd (fun k => k = w0.heap.size) w3 (w3.setCell ⟨w0.heap.size, 7, none⟩ (.slice none 0 0)) := Upd.set _ _ rfl
  have HR4 : Hid (Row (w3.setCell ⟨w0.heap.size, 7, none⟩ (.slice none 0 0)) w0.heap.size 171 (nodeA 2 493 1 1)) := Lib.hid (by
    rw [HR3.out.setCell]; exact HR3.out.setRow _)
  have HR04 := Lib.hid (HR03.out.upd u4 (by have := HLZ.out; omega))
  have HB4 := Lib.hid (HB3.out.trans (u4.toBelow HB3.out.size (by have := HLZ.out; omega)))
  have HV4 : Hid (At (Value.int .u8) 0 (w3.setCell ⟨w0.heap.size, 7, none⟩ (.slice none 0 0)) (.slice (some ⟨b, o, none⟩) 32 cap) rootL) := Lib.hid (by
    obtain ⟨a', cap', e1, e2, e3, e4⟩ := HV3.out
    refine ⟨a', cap', e1, e2, e3, ?_⟩
    rcases e4 with e4 | ⟨b', o', g1, g2, g3⟩
    · exact .inl e4
    · injection e1 with e1 _ _
      rw [g1] at e1
      injection e1 with e1
      injection e1 with e1 _ _
      refine .inr ⟨b', o', g1, Nat.lt_of_lt_of_le g2 u4.size, fun i hi => ?_⟩
      rw [u4.cell g2 (by have := HLT0.out; omega)]
      exact g3 i hi)
  clear HR3 HR03 HB3 HV3 u4
  go_upto_region 8 with fail
  clear c7 f7
  generalize w3.setCell ⟨w0.heap.size, 7, none⟩ (.slice none 0 0) = w4 at *
  have l4 := HR4.out.ld0 Tryz.underlying171 rfl (by kernel_rfl)
  have HP := Lib.hid (ipack1_is w4)
  obtain ⟨N, hN⟩ : ∃ N, N = (nodeA 2 493 1 1) := ⟨_, rfl⟩
  rw [← hN] at l4 HP HR4
  have HNN := Lib.hid hN
  clear hN
  go_upto_region 9 with (go_at_call 77; refine HP.out.mono ?_; rintro e5 w5 ⟨v5, rfl, ho5, hb5⟩)
  have HB5 := Lib.hid (HB4.out.trans (hb5.mono HB4.out.size))
  have HR5 := Lib.hid (HR4.out.keep hb5)
  have HR05 := Lib.hid (HR04.out.keep hb5)
  have HEQ := Lib.hid (equalB_is (by decide) ho5.at (HV4.out.keep hb5))
  clear HP HB4 HR4 HR04 HV4 ho5 hb5 l4
  go_upto_region 11 with (go_at_call 81; refine HEQ.out.mono ?_; rintro e6 w6 ⟨rfl, hb6⟩)
  have HB6 := Lib.hid (HB5.out.trans (hb6.mono HB5.out.size))
  have HR6 := HR5.out.keep hb6
  have HR06 := HR05.out.keep hb6
  have l6 := HR6.ld0 Tryz.underlying171 rfl (by rw [HNN.out]; kernel_rfl)
  have s6 := HR06.st0 (cs := N) (by rw [HNN.out] <;> rfl) (by rw [HNN.out]; kernel_rfl) (by rw [HNN.out]; simp [nodeA, Value.oneCell'])
  have l7 := (HR06.setRow N).ldV Tryz.underlying171 rfl (by rw [HNN.out]; kernel_rfl)
  have HB7 := Lib.hid (HB6.out.trans (Upd.toBelow (Upd.setRow w6 N (b := w.heap.size) (S := fun k => k = w.heap.size) rfl) HB6.out.size (by omega)))
  generalize w6.setRow w.heap.size N = w7 at *
  clear HR6 HR06 hb6 HEQ HB5 HR5 HR05
  go_wp2_with fail
  exact bodyPost_ret (v := .tuple #[.agg N, .int .i64 0]) (by rw [results_cell_tmp rfl]; simp [asAddr, Result.andThen, l7]) rfl ⟨by rw [HNN.out], HB7.out⟩
end Go.Proofs.YtnmlapiekfkbaaaGreatDoor
