/- The walks of inode.Pack at the node that is nothing, and at the root. The walk of inode.Unpack at zeros. Printed by gen_unpk.py. The walk of inode.Pack at the root (some minutes). -/
import Derived.Test.YtnbhohaphmilmaaGreatDoorInode
import Derived.Test.YtnbhohaphmilmaaGreatDoorBegin
import Derived.Deep.RegionHeld3
namespace Go.Proofs.YtnbhohaphmilmaaGreatDoor
open Go.RowKit
set_option linter.unusedVariables false
set_option linter.unusedSimpArgs false
def rootL : List Int := [2, 237, 1, 0, 0, 0, 0, 1, 1] ++ zeros 23
theorem ld_ino (v : Value) : Instr.loadAt 154 v = ldR 154 v := rfl
theorem nodeA_ld {w : World} {b : Nat} {k m l u : Int} (h : Row w b 154 (nodeA k m l u)) : (ldR 154 (.pointer (some ⟨b, 0, none⟩))).run Tryz.prog w = .ok (.agg (nodeA k m l u)) w := h.ld0 Tryz.underlying154 rfl (by kernel_rfl)
attribute [local go_sem ↓] mkB_eq ld_ino copyB_eq
set_option maxRecDepth 100000 in
set_option maxHeartbeats 400000 in
theorem ipack0_is (w : World) : Calls Tryz.prog 58 #[.agg (nodeA 0 0 0 0)] w fun e w' => ∃ v, e = .returned (.tuple #[v, .int .i64 0]) ∧ OB w.heap.size w' v (zeros 32) ∧ Below w.heap.size w w' := by
  have HB := Lib.hid (Go.Joins.below_alloc1 w (.cells (nodeA 0 0 0 0) 154))
  have HR := Lib.hid (row_new w 154 (nodeA 0 0 0 0))
  have l0 := nodeA_ld HR.out
  have HRI := Lib.hid (iright0_is (w.alloc (.cells (nodeA 0 0 0 0) 154)))
  have HN := Lib.hid (show nodeA 0 0 0 0 = #[.int .i64 0, .int .i64 0, .int .i64 0, .int .i64 0, .int .i64 0, .int .i64 0, .int .i64 0, .slice none 0 0] from rfl)
  generalize nodeA 0 0 0 0 = A at *
  go_enter Tryz.func58, Tryz.ntmps58
  go_upto_region 1 with fail
  generalize w.alloc (.cells A 154) = w0 at *
  go_upto_region 2 with (go_at_call 116; refine HRI.out.mono ?_; rintro e1 w1 ⟨rfl, hb1⟩)
  have HB1 := Lib.hid (HB.out.trans (hb1.mono HB.out.size))
  have HB2 := Lib.hid (HB1.out.alloc HB1.out.size (.cells ((zeros 32).map u8V).toArray 5))
  have hr2 := HR.out.keep hb1
  have c0 : w1.cell? ⟨w.heap.size, 0, none⟩ = some (.int .i64 0) := by rw [hr2.cell, HN.out]; rfl
  have hr3 := hr2.alloc (.cells ((zeros 32).map u8V).toArray 5)
  have c1 : (w1.alloc (.cells ((zeros 32).map u8V).toArray 5)).cell? ⟨w.heap.size, 0, none⟩ = some (.int .i64 0) := by rw [hr3.cell, HN.out]; rfl
  have hmk := mkB32 w1
  have HO := Lib.hid (ob_of_bk (B := w.heap.size) (bk_new w1 (zeros 32)) HB1.out.size (by decide) (c := 32) rfl)
  generalize w1.alloc (.cells ((zeros 32).map u8V).toArray 5) = w2 at *
  clear l0 HR HRI hb1 hr2 hr3
  go_wp2_with fail
  go_ret2
  exact ⟨_, rfl, HO.out, HB2.out⟩
end Go.Proofs.YtnbhohaphmilmaaGreatDoor
namespace Go.Proofs.YtnbhohaphmilmaaGreatDoor
open Go.RowKit
set_option linter.unusedVariables false
set_option linter.unusedSimpArgs false
theorem st_ino0 (p v : Value) : Instr.storeAt 154 p v = stR 154 p v := rfl
attribute [local go_sem ↓] ld_ino st_ino0
set_option maxRecDepth 100000 in
set_option maxHeartbeats 4000000 in
theorem iunpack0_is {w : World} {v : Value} (hv : At (Value.int .u8) 0 w v (zeros 32)) : Calls Tryz.prog 121 #[v] w fun e w' => e = .returned (.tuple #[.agg (nodeA 0 0 0 0), .int .i64 0]) ∧ Below w.heap.size w w' := by
  have HV := Lib.hid hv
  obtain ⟨a, cap, rfl, hl, hcm, -⟩ := hv
  rw [show (zeros 32).length = 32 from rfl] at hl HV ⊢
  rcases At.cellB HV.out with e | ⟨b, o, rfl, hlt, hc⟩
  · cases e
  have HC := Lib.hid hc
  have HLT := Lib.hid hlt
  have HCM := Lib.hid hcm
  clear hc hlt hcm
  go_enter Tryz.func121, Tryz.ntmps121
  go_upto_region 3 with fail
  have HB0 := Lib.hid (Go.Joins.below_alloc1 w (.cells #[.int .i64 0, .int .i64 0, .int .i64 0, .int .i64 0, .int .i64 0, .int .i64 0, .int .i64 0, .slice none 0 0] 154))
  have HR0 : Hid (Row (w.alloc (.cells #[.int .i64 0, .int .i64 0, .int .i64 0, .int .i64 0, .int .i64 0, .int .i64 0, .int .i64 0, .slice none 0 0] 154)) w.heap.size 154 (nodeA 0 0 0 0)) := Lib.hid (row_new w _ _)
  have HV0 := Lib.hid (HV.out.keep HB0.out)
  have HLT0 : Hid (b < (w.alloc (.cells #[.int .i64 0, .int .i64 0, .int .i64 0, .int .i64 0, .int .i64 0, .int .i64 0, .int .i64 0, .slice none 0 0] 154)).heap.size) := Lib.hid (Nat.lt_of_lt_of_le HLT.out HB0.out.size)
  have HC0 : Hid (∀ i, i < 32 → (w.alloc (.cells #[.int .i64 0, .int .i64 0, .int .i64 0, .int .i64 0, .int .i64 0, .int .i64 0, .int .i64 0, .slice none 0 0] 154)).cell? ⟨b, o + i, none⟩ = some (.int .u8 ((zeros 32).getD i 0))) := Lib.hid (fun i hi => by rw [HB0.out.cell (p := ⟨b, o + i, none⟩) HLT.out, HC.out i hi])
  generalize w.alloc (.cells #[.int .i64 0, .int .i64 0, .int .i64 0, .int .i64 0, .int .i64 0, .int .i64 0, .int .i64 0, .slice none 0 0] 154) = w0 at *
  have HS : Hid (w0.cell? ⟨b, o, none⟩ = some (.int .u8 0) ∧ w0.cell? ⟨b, o + 1, none⟩ = some (.int .u8 0) ∧ w0.cell? ⟨b, o + 2, none⟩ = some (.int .u8 0) ∧ w0.cell? ⟨b, o + 3, none⟩ = some (.int .u8 0) ∧ w0.cell? ⟨b, o + 4, none⟩ = some (.int .u8 0) ∧ w0.cell? ⟨b, o + 5, none⟩ = some (.int .u8 0) ∧ w0.cell? ⟨b, o + 6, none⟩ = some (.int .u8 0) ∧ w0.cell? ⟨b, o + 7, none⟩ = some (.int .u8 0) ∧ w0.cell? ⟨b, o + 8, none⟩ = some (.int .u8 0)) := Lib.hid ⟨HC0.out 0 (by decide), HC0.out 1 (by decide), HC0.out 2 (by decide), HC0.out 3 (by decide), HC0.out 4 (by decide), HC0.out 5 (by decide), HC0.out 6 (by decide), HC0.out 7 (by decide), HC0.out 8 (by decide)⟩
  have HSA : Hid (∀ ob, (w0.alloc ob).cell? ⟨b, o, none⟩ = some (.int .u8 0) ∧ (w0.alloc ob).cell? ⟨b, o + 1, none⟩ = some (.int .u8 0) ∧ (w0.alloc ob).cell? ⟨b, o + 2, none⟩ = some (.int .u8 0) ∧ (w0.alloc ob).cell? ⟨b, o + 3, none⟩ = some (.int .u8 0) ∧ (w0.alloc ob).cell? ⟨b, o + 4, none⟩ = some (.int .u8 0) ∧ (w0.alloc ob).cell? ⟨b, o + 5, none⟩ = some (.int .u8 0) ∧ (w0.alloc ob).cell? ⟨b, o + 6, none⟩ = some (.int .u8 0) ∧ (w0.alloc ob).cell? ⟨b, o + 7, none⟩ = some (.int .u8 0) ∧ (w0.alloc ob).cell? ⟨b, o + 8, none⟩ = some (.int .u8 0)) := Lib.hid (fun ob => by
    have h := HS.out
    have k : ∀ j, (w0.alloc ob).cell? ⟨b, j, none⟩ = w0.cell? ⟨b, j, none⟩ := fun j => World.cell?_alloc_lt _ _ _ HLT0.out
    simp only [k]
    exact h)
  have HR1 : Hid (Row ((w0.alloc (.cells #[.int .i64 0, .int .i64 0, .int .i64 0, .int .i64 0, .int .i64 0, .int .i64 0, .int .i64 0, .slice none 0 0] 154)).drew) w0.heap.size 154 #[.int .i64 0, .int .i64 0, .int .i64 0, .int .i64 0, .int .i64 0, .int .i64 0, .int .i64 0, .slice none 0 0]) := Lib.hid (row_new w0 154 #[.int .i64 0, .int .i64 0, .int .i64 0, .int .i64 0, .int .i64 0, .int .i64 0, .int .i64 0, .slice none 0 0]).drew
  have eN : #[.int .i64 (IntKind.i64.wrap 0), .int .i64 (bits BinOp.or IntKind.i64 (IntKind.i64.wrap 0) (IntKind.i64.wrap ((IntKind.i64.wrap 0) * 256))), .int .i64 (IntKind.i64.wrap 0), .int .i64 (IntKind.i64.wrap 0), .int .i64 (bits BinOp.or IntKind.i64 (IntKind.i64.wrap 0) (IntKind.i64.wrap ((IntKind.i64.wrap 0) * 256))), .int .i64 (IntKind.i64.wrap 0), .int .i64 (IntKind.i64.wrap 0), .slice none 0 0] = (nodeA 0 0 0 0) := by rfl
  have stn : (stR 154 (.pointer (some ⟨w0.heap.size, 0, none⟩)) (.agg #[.int .i64 (IntKind.i64.wrap 0), .int .i64 (bits BinOp.or IntKind.i64 (IntKind.i64.wrap 0) (IntKind.i64.wrap ((IntKind.i64.wrap 0) * 256))), .int .i64 (IntKind.i64.wrap 0), .int .i64 (IntKind.i64.wrap 0), .int .i64 (bits BinOp.or IntKind.i64 (IntKind.i64.wrap 0) (IntKind.i64.wrap ((IntKind.i64.wrap 0) * 256))), .int .i64 (IntKind.i64.wrap 0), .int .i64 (IntKind.i64.wrap 0), .slice none 0 0])).run Tryz.prog ((w0.alloc (.cells #[.int .i64 0, .int .i64 0, .int .i64 0, .int .i64 0, .int .i64 0, .int .i64 0, .int .i64 0, .slice none 0 0] 154)).drew) = .ok () (((w0.alloc (.cells #[.int .i64 0, .int .i64 0, .int .i64 0, .int .i64 0, .int .i64 0, .int .i64 0, .int .i64 0, .slice none 0 0] 154)).drew).setRow w0.heap.size (nodeA 0 0 0 0)) := by
    rw [HR1.out.st0 (cs := #[.int .i64 (IntKind.i64.wrap 0), .int .i64 (bits BinOp.or IntKind.i64 (IntKind.i64.wrap 0) (IntKind.i64.wrap ((IntKind.i64.wrap 0) * 256))), .int .i64 (IntKind.i64.wrap 0), .int .i64 (IntKind.i64.wrap 0), .int .i64 (bits BinOp.or IntKind.i64 (IntKind.i64.wrap 0) (IntKind.i64.wrap ((IntKind.i64.wrap 0) * 256))), .int .i64 (IntKind.i64.wrap 0), .int .i64 (IntKind.i64.wrap 0), .slice none 0 0]) rfl (by kernel_rfl) (by rw [eN]; simp [nodeA, Value.oneCell']), eN]
  have HR2 := Lib.hid (HR1.out.setRow (nodeA 0 0 0 0))
  have HW2 := Lib.hid (((Go.Joins.below_alloc1 w0 (.cells #[.int .i64 0, .int .i64 0, .int .i64 0, .int .i64 0, .int .i64 0, .int .i64 0, .int .i64 0, .slice none 0 0] 154)).drew).trans (Upd.toBelow (Upd.setRow ((w0.alloc (.cells #[.int .i64 0, .int .i64 0, .int .i64 0, .int .i64 0, .int .i64 0, .int .i64 0, .int .i64 0, .slice none 0 0] 154)).drew) (b := w0.heap.size) (nodeA 0 0 0 0) (S := fun k => k = w0.heap.size) rfl) (by simp [World.drew]) (by omega)))
  have HS2 : Hid ((((w0.alloc (.cells #[.int .i64 0, .int .i64 0, .int .i64 0, .int .i64 0, .int .i64 0, .int .i64 0, .int .i64 0, .slice none 0 0] 154)).drew).setRow w0.heap.size (nodeA 0 0 0 0)).cell? ⟨b, o, none⟩ = some (.int .u8 0) ∧ (((w0.alloc (.cells #[.int .i64 0, .int .i64 0, .int .i64 0, .int .i64 0, .int .i64 0, .int .i64 0, .int .i64 0, .slice none 0 0] 154)).drew).setRow w0.heap.size (nodeA 0 0 0 0)).cell? ⟨b, o + 1, none⟩ = some (.int .u8 0) ∧ (((w0.alloc (.cells #[.int .i64 0, .int .i64 0, .int .i64 0, .int .i64 0, .int .i64 0, .int .i64 0, .int .i64 0, .slice none 0 0] 154)).drew).setRow w0.heap.size (nodeA 0 0 0 0)).cell? ⟨b, o + 2, none⟩ = some (.int .u8 0) ∧ (((w0.alloc (.cells #[.int .i64 0, .int .i64 0, .int .i64 0, .int .i64 0, .int .i64 0, .int .i64 0, .int .i64 0, .slice none 0 0] 154)).drew).setRow w0.heap.size (nodeA 0 0 0 0)).cell? ⟨b, o + 3, none⟩ = some (.int .u8 0) ∧ (((w0.alloc (.cells #[.int .i64 0, .int .i64 0, .int .i64 0, .int .i64 0, .int .i64 0, .int .i64 0, .int .i64 0, .slice none 0 0] 154)).drew).setRow w0.heap.size (nodeA 0 0 0 0)).cell? ⟨b, o + 4, none⟩ = some (.int .u8 0) ∧ (((w0.alloc (.cells #[.int .i64 0, .int .i64 0, .int .i64 0, .int .i64 0, .int .i64 0, .int .i64 0, .int .i64 0, .slice none 0 0] 154)).drew).setRow w0.heap.size (nodeA 0 0 0 0)).cell? ⟨b, o + 5, none⟩ = some (.int .u8 0) ∧ (((w0.alloc (.cells #[.int .i64 0, .int .i64 0, .int .i64 0, .int .i64 0, .int .i64 0, .int .i64 0, .int .i64 0, .slice none 0 0] 154)).drew).setRow w0.heap.size (nodeA 0 0 0 0)).cell? ⟨b, o + 6, none⟩ = some (.int .u8 0) ∧ (((w0.alloc (.cells #[.int .i64 0, .int .i64 0, .int .i64 0, .int .i64 0, .int .i64 0, .int .i64 0, .int .i64 0, .slice none 0 0] 154)).drew).setRow w0.heap.size (nodeA 0 0 0 0)).cell? ⟨b, o + 7, none⟩ = some (.int .u8 0) ∧ (((w0.alloc (.cells #[.int .i64 0, .int .i64 0, .int .i64 0, .int .i64 0, .int .i64 0, .int .i64 0, .int .i64 0, .slice none 0 0] 154)).drew).setRow w0.heap.size (nodeA 0 0 0 0)).cell? ⟨b, o + 8, none⟩ = some (.int .u8 0)) := Lib.hid (by
    have h := HS.out
    have k : ∀ j, ((((w0.alloc (.cells #[.int .i64 0, .int .i64 0, .int .i64 0, .int .i64 0, .int .i64 0, .int .i64 0, .int .i64 0, .slice none 0 0] 154)).drew).setRow w0.heap.size (nodeA 0 0 0 0))).cell? ⟨b, j, none⟩ = w0.cell? ⟨b, j, none⟩ := fun j => HW2.out.cell (p := ⟨b, j, none⟩) HLT0.out
    simp only [k]
    exact h)
  clear HC eN
  generalize hw2 : ((w0.alloc (.cells #[.int .i64 0, .int .i64 0, .int .i64 0, .int .i64 0, .int .i64 0, .int .i64 0, .int .i64 0, .slice none 0 0] 154)).drew).setRow w0.heap.size (nodeA 0 0 0 0) = w2 at *
  clear hw2
  go_region_held3 (fun wx => wx.cell? ⟨b, o, none⟩ = some (.int .u8 0) ∧ wx.cell? ⟨b, o + 1, none⟩ = some (.int .u8 0) ∧ wx.cell? ⟨b, o + 2, none⟩ = some (.int .u8 0) ∧ wx.cell? ⟨b, o + 3, none⟩ = some (.int .u8 0) ∧ wx.cell? ⟨b, o + 4, none⟩ = some (.int .u8 0) ∧ wx.cell? ⟨b, o + 5, none⟩ = some (.int .u8 0) ∧ wx.cell? ⟨b, o + 6, none⟩ = some (.int .u8 0) ∧ wx.cell? ⟨b, o + 7, none⟩ = some (.int .u8 0) ∧ wx.cell? ⟨b, o + 8, none⟩ = some (.int .u8 0)) (first | assumption | exact HS.out | exact HSA.out _ | exact HS2.out) (first | fail)
  clear stn HS HSA HR1 HS2
  have HLZ : Hid (w.heap.size < w0.heap.size) := Lib.hid HR0.out.lt
  have HR02 := Lib.hid (HR0.out.keep HW2.out)
  have HV2 := Lib.hid (HV0.out.keep HW2.out)
  have HB2 := Lib.hid (HB0.out.trans (HW2.out.mono HB0.out.size))
  obtain ⟨q, hq⟩ : ∃ q, q = w0.heap.size := ⟨_, rfl⟩
  have HX : Hid (At (Value.int .u8) 0 w2 (.slice (some ⟨b, o + 9, none⟩) 16 (cap - 9)) (zeros 16)) := Lib.hid (by
    refine ⟨_, _, rfl, by rw [zeros_len]; omega, by have := HCM.out; omega, .inr ⟨b, o + 9, rfl, Nat.lt_of_lt_of_le HLT0.out HW2.out.size, fun i hi => ?_⟩⟩
    rw [zeros_len] at hi
    rw [HW2.out.cell (p := ⟨b, o + 9 + i, none⟩) HLT0.out, show o + 9 + i = o + (9 + i) by omega, HC0.out (9 + i) (by omega), zeros_get]
    have : i = 0 ∨ i = 1 ∨ i = 2 ∨ i = 3 ∨ i = 4 ∨ i = 5 ∨ i = 6 ∨ i = 7 ∨ i = 8 ∨ i = 9 ∨ i = 10 ∨ i = 11 ∨ i = 12 ∨ i = 13 ∨ i = 14 ∨ i = 15 := by omega
    rcases this with rfl | rfl | rfl | rfl | rfl | rfl | rfl | rfl | rfl | rfl | rfl | rfl | rfl | rfl | rfl | rfl <;> rfl)
  have HXU := Lib.hid (xunpack_is HX.out)
  clear HC0 HR0 HV0 HV HB0 HX HW2
  have b1 : 25 ≤ cap := by omega
  have b2 : ¬ cap = 9 := by omega
  clear hq
  go_upto_region 5 with (go_at_call 198; refine HXU.out.mono ?_; rintro e3 w3 ⟨rfl, hb3⟩)
  have HB3 := Lib.hid (HB2.out.trans (hb3.mono HB2.out.size))
  have HR3 := Lib.hid (HR2.out.keep hb3)
  have HR03 := Lib.hid (HR02.out.keep hb3)
  have HV3 := Lib.hid (HV2.out.keep hb3)
  clear HB2 HR2 HR02 HV2 HXU hb3
  have c7 : w3.cell? ⟨w0.heap.size, 7, none⟩ = some (.slice none 0 0) := by rw [HR3.out.cell]; rfl
  have f7 := HR3.out.fz 7
  have u4 : Upd (fun k => k = w0.heap.size) w3 (w3.setCell ⟨w0.heap.size, 7, none⟩ (.slice none 0 0)) := Upd.set _ _ rfl
  have HR4 : Hid (Row (w3.setCell ⟨w0.heap.size, 7, none⟩ (.slice none 0 0)) w0.heap.size 154 (nodeA 0 0 0 0)) := Lib.hid (by
    rw [HR3.out.setCell]; exact HR3.out.setRow _)
  have HR04 := Lib.hid (HR03.out.upd u4 (by have := HLZ.out; omega))
  have HB4 := Lib.hid (HB3.out.trans (u4.toBelow HB3.out.size (by have := HLZ.out; omega)))
  have HV4 : Hid (At (Value.int .u8) 0 (w3.setCell ⟨w0.heap.size, 7, none⟩ (.slice none 0 0)) (.slice (some ⟨b, o, none⟩) 32 cap) (zeros 32)) := Lib.hid (by
    obtain ⟨a', cap', e1, e2, e3, e4⟩ := HV3.out
    refine ⟨a', cap', e1, e2, e3, ?_⟩
    rcases e4 with e4 | ⟨b', o', g1, g2, g3⟩
    · exact .inl e4
    · injection e1 with e1 _ _
      rw [g1] at e1
      injection e1 with e1
      injection e1 with e1 _ _
      refine .inr ⟨b', o', g1, Nat.lt_of_lt_of_le g2 u4.size, fun i hi => ?_⟩
      rw [u4.cell g2 (by have := HLT0.out; omega)]
      exact g3 i hi)
  clear HR3 HR03 HB3 HV3 u4
  go_upto_region 8 with fail
  clear c7 f7
  generalize w3.setCell ⟨w0.heap.size, 7, none⟩ (.slice none 0 0) = w4 at *
  have l4 := HR4.out.ld0 Tryz.underlying154 rfl (by kernel_rfl)
  have HP := Lib.hid (ipack0_is w4)
  obtain ⟨N, hN⟩ : ∃ N, N = (nodeA 0 0 0 0) := ⟨_, rfl⟩
  rw [← hN] at l4 HP HR4
  have HNN := Lib.hid hN
  clear hN
  go_upto_region 9 with (go_at_call 58; refine HP.out.mono ?_; rintro e5 w5 ⟨v5, rfl, ho5, hb5⟩)
  have HB5 := Lib.hid (HB4.out.trans (hb5.mono HB4.out.size))
  have HR5 := Lib.hid (HR4.out.keep hb5)
  have HR05 := Lib.hid (HR04.out.keep hb5)
  have HEQ := Lib.hid (equalB_is (by decide) ho5.at (HV4.out.keep hb5))
  clear HP HB4 HR4 HR04 HV4 ho5 hb5 l4
  go_upto_region 11 with (go_at_call 62; refine HEQ.out.mono ?_; rintro e6 w6 ⟨rfl, hb6⟩)
  have HB6 := Lib.hid (HB5.out.trans (hb6.mono HB5.out.size))
  have HR6 := HR5.out.keep hb6
  have HR06 := HR05.out.keep hb6
  have l6 := HR6.ld0 Tryz.underlying154 rfl (by rw [HNN.out]; kernel_rfl)
  have s6 := HR06.st0 (cs := N) (by rw [HNN.out] <;> rfl) (by rw [HNN.out]; kernel_rfl) (by rw [HNN.out]; simp [nodeA, Value.oneCell'])
  have l7 := (HR06.setRow N).ldV Tryz.underlying154 rfl (by rw [HNN.out]; kernel_rfl)
  have HB7 := Lib.hid (HB6.out.trans (Upd.toBelow (Upd.setRow w6 N (b := w.heap.size) (S := fun k => k = w.heap.size) rfl) HB6.out.size (by omega)))
  generalize w6.setRow w.heap.size N = w7 at *
  clear HR6 HR06 hb6 HEQ HB5 HR5 HR05
  go_wp2_with fail
  exact bodyPost_ret (v := .tuple #[.agg N, .int .i64 0]) (by rw [results_cell_tmp rfl]; simp [asAddr, Result.andThen, l7]) rfl ⟨by rw [HNN.out], HB7.out⟩
end Go.Proofs.YtnbhohaphmilmaaGreatDoor
namespace Go.Proofs.YtnbhohaphmilmaaGreatDoor
open Go.RowKit
set_option linter.unusedVariables false
set_option linter.unusedSimpArgs false
attribute [local go_sem ↓] mkB_eq ld_ino copyB_eq
set_option maxRecDepth 100000 in
set_option maxHeartbeats 8000000 in
theorem ipack1b_is (w : World) : Calls Tryz.prog 58 #[.agg (nodeA 2 493 1 1)] w fun e w' => ∃ g, e = .returned (.tuple #[.slice (some ⟨g, 0, none⟩) 32 32, .int .i64 0]) ∧ w.heap.size ≤ g ∧ BK w' g rootL ∧ Below w.heap.size w w' := by
  have HB := Lib.hid (Go.Joins.below_alloc1 w (.cells (nodeA 2 493 1 1) 154))
  have HR := Lib.hid (row_new w 154 (nodeA 2 493 1 1))
  have l0 := nodeA_ld HR.out
  have HRI := Lib.hid (iright1_is (w.alloc (.cells (nodeA 2 493 1 1) 154)))
  have HN := Lib.hid (show nodeA 2 493 1 1 = #[.int .i64 2, .int .i64 493, .int .i64 0, .int .i64 0, .int .i64 0, .int .i64 1, .int .i64 1, .slice none 0 0] from rfl)
  generalize nodeA 2 493 1 1 = A at *
  go_enter Tryz.func58, Tryz.ntmps58
  go_upto_region 1 with fail
  generalize w.alloc (.cells A 154) = w0 at *
  go_upto_region 2 with (go_at_call 116; refine HRI.out.mono ?_; rintro e1 w1 ⟨rfl, hb1⟩)
  have HB1 := Lib.hid (HB.out.trans (hb1.mono HB.out.size))
  have HB2 := Lib.hid (HB1.out.alloc HB1.out.size (.cells ((zeros 32).map u8V).toArray 5))
  have HR2 := Lib.hid (HR.out.keep hb1)
  have hr3 := HR2.out.alloc (.cells ((zeros 32).map u8V).toArray 5)
  have hmk := mkB32 w1
  have HBK := Lib.hid (bk_new w1 (zeros 32))
  have hlt : w.heap.size < w1.heap.size := HR2.out.lt
  generalize w1.alloc (.cells ((zeros 32).map u8V).toArray 5) = w2 at *
  have HR3 := Lib.hid hr3
  clear l0 HR HRI hb1 hr3
  have c0 : w2.cell? ⟨w.heap.size, 0, none⟩ = some (.int .i64 2) := by rw [HR3.out.cell, HN.out]; rfl
  have c7 : w2.cell? ⟨w.heap.size, 7, none⟩ = some (.slice none 0 0) := by rw [HR3.out.cell, HN.out]; rfl
  have HPK := Lib.hid (xpack_is w2)
  have hal3 := Go.Joins.below_alloc1 w2 (.cells ((zeros 16).map u8V).toArray 5)
  have HB3 := Lib.hid (HB2.out.trans (hal3.mono HB2.out.size))
  have HR4 := Lib.hid (HR3.out.keep hal3)
  have HBK3 := Lib.hid (HBK.out.keep hal3)
  have HZ3 := Lib.hid (bk_new w2 (zeros 16))
  have hlt3 : w1.heap.size < w2.heap.size := HBK.out.lt
  go_upto_region 10 with (go_at_call 117; refine HPK.out.mono ?_; rintro e1 w3 ⟨rfl, rfl⟩)
  generalize w2.alloc (.cells ((zeros 16).map u8V).toArray 5) = w3 at *
  clear c0 c7 HR3 HBK HPK hal3 hmk
  have ne1 : ¬ w.heap.size = w1.heap.size := by omega
  have ne2 : ¬ w1.heap.size = w.heap.size := by omega
  have c0 : w3.cell? ⟨w.heap.size, 0, none⟩ = some (.int .i64 2) := by rw [HR4.out.cell, HN.out]; rfl
  have c1 : w3.cell? ⟨w.heap.size, 1, none⟩ = some (.int .i64 493) := by rw [HR4.out.cell, HN.out]; rfl
  have c2 : w3.cell? ⟨w.heap.size, 2, none⟩ = some (.int .i64 0) := by rw [HR4.out.cell, HN.out]; rfl
  have c3 : w3.cell? ⟨w.heap.size, 3, none⟩ = some (.int .i64 0) := by rw [HR4.out.cell, HN.out]; rfl
  obtain ⟨xz0, z0⟩ : ∃ x, w3.cell? ⟨w1.heap.size, 0, none⟩ = some (Value.int .u8 x) := ⟨_, HBK3.out.cell (i := 0) (by decide)⟩
  obtain ⟨xz1, z1⟩ : ∃ x, w3.cell? ⟨w1.heap.size, 1, none⟩ = some (Value.int .u8 x) := ⟨_, HBK3.out.cell (i := 1) (by decide)⟩
  obtain ⟨xz2, z2⟩ : ∃ x, w3.cell? ⟨w1.heap.size, 2, none⟩ = some (Value.int .u8 x) := ⟨_, HBK3.out.cell (i := 2) (by decide)⟩
  obtain ⟨xz3, z3⟩ : ∃ x, w3.cell? ⟨w1.heap.size, 3, none⟩ = some (Value.int .u8 x) := ⟨_, HBK3.out.cell (i := 3) (by decide)⟩
  obtain ⟨xz4, z4⟩ : ∃ x, w3.cell? ⟨w1.heap.size, 4, none⟩ = some (Value.int .u8 x) := ⟨_, HBK3.out.cell (i := 4) (by decide)⟩
  have fz : ∀ j, w3.frozen? ⟨w1.heap.size, j, none⟩ = false := fun j => by have hb2 := HBK3.out; unfold BK at hb2; simp [World.frozen?, hb2]
  have f0 := fz 0
  have f1 := fz 1
  have f2 := fz 2
  have f3 := fz 3
  have f4 := fz 4
  have HFZ := Lib.hid fz
  clear fz
  go_region
  have e5 : ((((w3.setCell ⟨w1.heap.size, 0, none⟩ (.int .u8 2)).setCell ⟨w1.heap.size, 1, none⟩ (.int .u8 237)).setCell ⟨w1.heap.size, 2, none⟩ (.int .u8 1)).setCell ⟨w1.heap.size, 3, none⟩ (.int .u8 0)).setCell ⟨w1.heap.size, 4, none⟩ (.int .u8 0) = w3.setRow w1.heap.size (((((((zeros 32).set 0 2).set 1 237).set 2 1).set 3 0).set 4 0).map u8V).toArray := by
    rw [HBK3.out.setCell, (HBK3.out.setRow _).setCell, setRow_setRow, (HBK3.out.setRow _).setCell, setRow_setRow, (HBK3.out.setRow _).setCell, setRow_setRow, (HBK3.out.setRow _).setCell, setRow_setRow]
  have HBK4 := Lib.hid (HBK3.out.setRow (((((((zeros 32).set 0 2).set 1 237).set 2 1).set 3 0).set 4 0)))
  have u4 : Upd (fun k => k = w1.heap.size) w3 (w3.setRow w1.heap.size (((((((zeros 32).set 0 2).set 1 237).set 2 1).set 3 0).set 4 0).map u8V).toArray) := Upd.setRow _ _ rfl
  have HB4 := Lib.hid (HB3.out.trans (u4.toBelow HB3.out.size (by omega)))
  have HR5 := Lib.hid (HR4.out.upd u4 (by omega))
  have HZ4 := Lib.hid (HZ3.out.upd u4 (by omega))
  have L5 : (((((((zeros 32).set 0 2).set 1 237).set 2 1).set 3 0).set 4 0)) = [2, 237, 1, 0, 0] ++ zeros 27 := by decide
  rw [e5]
  rw [L5] at HBK4 HB4 HR5 HZ4 ⊢
  have HBK4 : Hid (BK (w3.setRow w1.heap.size ((([2, 237, 1, 0, 0] : List Int) ++ zeros 27).map u8V).toArray).drew _ _) := HBK4
  have HR5 : Hid (Row (w3.setRow w1.heap.size ((([2, 237, 1, 0, 0] : List Int) ++ zeros 27).map u8V).toArray).drew _ _ _) := HR5
  have HZ4 : Hid (BK (w3.setRow w1.heap.size ((([2, 237, 1, 0, 0] : List Int) ++ zeros 27).map u8V).toArray).drew _ _) := HZ4
  have HB4 := Lib.hid HB4.out.drew
  generalize (w3.setRow w1.heap.size ((([2, 237, 1, 0, 0] : List Int) ++ zeros 27).map u8V).toArray).drew = w4 at *
  clear e5 L5 u4 c0 c1 c2 c3 z0 z1 z2 z3 z4 f0 f1 f2 f3 f4 HFZ HBK3 HB3 HR4 HZ3
  have c0 : w4.cell? ⟨w.heap.size, 4, none⟩ = some (.int .i64 0) := by rw [HR5.out.cell, HN.out]; rfl
  have c1 : w4.cell? ⟨w.heap.size, 5, none⟩ = some (.int .i64 1) := by rw [HR5.out.cell, HN.out]; rfl
  have c2 : w4.cell? ⟨w.heap.size, 6, none⟩ = some (.int .i64 1) := by rw [HR5.out.cell, HN.out]; rfl
  obtain ⟨xz0, z0⟩ : ∃ x, w4.cell? ⟨w1.heap.size, 5, none⟩ = some (Value.int .u8 x) := ⟨_, HBK4.out.cell (i := 5) (by decide)⟩
  obtain ⟨xz1, z1⟩ : ∃ x, w4.cell? ⟨w1.heap.size, 6, none⟩ = some (Value.int .u8 x) := ⟨_, HBK4.out.cell (i := 6) (by decide)⟩
  obtain ⟨xz2, z2⟩ : ∃ x, w4.cell? ⟨w1.heap.size, 7, none⟩ = some (Value.int .u8 x) := ⟨_, HBK4.out.cell (i := 7) (by decide)⟩
  obtain ⟨xz3, z3⟩ : ∃ x, w4.cell? ⟨w1.heap.size, 8, none⟩ = some (Value.int .u8 x) := ⟨_, HBK4.out.cell (i := 8) (by decide)⟩
  have fz : ∀ j, w4.frozen? ⟨w1.heap.size, j, none⟩ = false := fun j => by have hb2 := HBK4.out; unfold BK at hb2; simp [World.frozen?, hb2]
  have f0 := fz 5
  have f1 := fz 6
  have f2 := fz 7
  have f3 := fz 8
  clear fz
  go_upto_region 11 with fail
  have HKS : Hid (∀ (wx : World) (i : Nat) (v : Value), wx.cell? ⟨w.heap.size, 4, none⟩ = some (.int .i64 0) ∧ wx.cell? ⟨w.heap.size, 5, none⟩ = some (.int .i64 1) ∧ wx.cell? ⟨w.heap.size, 6, none⟩ = some (.int .i64 1) → (wx.setCell ⟨w1.heap.size, i, none⟩ v).cell? ⟨w.heap.size, 4, none⟩ = some (.int .i64 0) ∧ (wx.setCell ⟨w1.heap.size, i, none⟩ v).cell? ⟨w.heap.size, 5, none⟩ = some (.int .i64 1) ∧ (wx.setCell ⟨w1.heap.size, i, none⟩ v).cell? ⟨w.heap.size, 6, none⟩ = some (.int .i64 1)) := Lib.hid (fun wx i v h => ⟨set_blk ne1 h.1, set_blk ne1 h.2.1, set_blk ne1 h.2.2⟩)
  go_region_held3 (fun wx => wx.cell? ⟨w.heap.size, 4, none⟩ = some (.int .i64 0) ∧ wx.cell? ⟨w.heap.size, 5, none⟩ = some (.int .i64 1) ∧ wx.cell? ⟨w.heap.size, 6, none⟩ = some (.int .i64 1)) (first | assumption | exact ⟨c0, c1, c2⟩ | exact HKS.out _ _ _ ‹_› | (refine HKS.out _ _ _ ?_; assumption)) (first | fail)
  have e9 : (((w4.setCell ⟨w1.heap.size, 5, none⟩ (.int .u8 (IntKind.u8.wrap 0))).setCell ⟨w1.heap.size, 6, none⟩ (.int .u8 (IntKind.u8.wrap 0))).setCell ⟨w1.heap.size, 7, none⟩ (.int .u8 (IntKind.u8.wrap 1))).setCell ⟨w1.heap.size, 8, none⟩ (.int .u8 (IntKind.u8.wrap 1)) = w4.setRow w1.heap.size (((((([2, 237, 1, 0, 0] : List Int) ++ zeros 27).set 5 0).set 6 0).set 7 1).set 8 1 |>.map u8V).toArray := by
    rw [show IntKind.u8.wrap 0 = 0 by decide, show IntKind.u8.wrap 1 = 1 by decide]
    rw [HBK4.out.setCell, (HBK4.out.setRow _).setCell, setRow_setRow, (HBK4.out.setRow _).setCell, setRow_setRow, (HBK4.out.setRow _).setCell, setRow_setRow]
  have HBK5 := Lib.hid (HBK4.out.setRow (((((([2, 237, 1, 0, 0] : List Int) ++ zeros 27).set 5 0).set 6 0).set 7 1).set 8 1))
  have u5 : Upd (fun k => k = w1.heap.size) w4 (w4.setRow w1.heap.size (((((([2, 237, 1, 0, 0] : List Int) ++ zeros 27).set 5 0).set 6 0).set 7 1).set 8 1 |>.map u8V).toArray) := Upd.setRow _ _ rfl
  have HB5 := Lib.hid (HB4.out.trans (u5.toBelow HB4.out.size (by omega))).drew
  have HZ5 := Lib.hid (HZ4.out.upd u5 (by omega))
  have L9 : (((((([2, 237, 1, 0, 0] : List Int) ++ zeros 27).set 5 0).set 6 0).set 7 1).set 8 1) = [2, 237, 1, 0, 0, 0, 0, 1, 1] ++ zeros 23 := by decide
  rw [e9]
  rw [L9] at HBK5 HB5 HZ5 ⊢
  have HBK5 : Hid (BK (w4.setRow w1.heap.size ((([2, 237, 1, 0, 0, 0, 0, 1, 1] : List Int) ++ zeros 23).map u8V).toArray).drew _ _) := HBK5
  have HZ5 : Hid (BK (w4.setRow w1.heap.size ((([2, 237, 1, 0, 0, 0, 0, 1, 1] : List Int) ++ zeros 23).map u8V).toArray).drew _ _) := HZ5
  have HL2 : Hid (w1.heap.size < w2.heap.size) := Lib.hid hlt3
  generalize (w4.setRow w1.heap.size ((([2, 237, 1, 0, 0, 0, 0, 1, 1] : List Int) ++ zeros 23).map u8V).toArray).drew = w5 at *
  clear e9 L9 u5 HKS c0 c1 c2 z0 z1 z2 z3 f0 f1 f2 f3 HBK4 HZ4 HB4 HR5
  have hcp := run_copyB (w := w5) (g := w1.heap.size) (o := 9) (dL := 23) (dC := 23) (sL := 16) (sC := 16) (sb := w2.heap.size) (so := 0) (cs := zeros 16) HBK5.out rfl (fun i hi => by rw [Nat.zero_add]; exact HZ5.out.cell hi) (by decide)
  rw [show splice (([2, 237, 1, 0, 0, 0, 0, 1, 1] : List Int) ++ zeros 23) 9 (zeros 16) = rootL by decide, show (((zeros 16).length : Nat) : Int) = 16 from rfl] at hcp
  have HBK6 := Lib.hid (HBK5.out.setRow rootL)
  have HB6 := Lib.hid (HB5.out.trans (Upd.toBelow (Upd.setRow w5 (rootL.map u8V).toArray (b := w1.heap.size) (S := fun k => k = w1.heap.size) rfl) HB5.out.size (by omega)))
  generalize w5.setRow w1.heap.size (rootL.map u8V).toArray = w6 at *
  go_wp2_with fail
  go_ret2
  exact ⟨_, rfl, Nat.le_of_lt hlt, HBK6.out, HB6.out⟩
theorem ipack1_is (w : World) : Calls Tryz.prog 58 #[.agg (nodeA 2 493 1 1)] w fun e w' => ∃ v, e = .returned (.tuple #[v, .int .i64 0]) ∧ OB w.heap.size w' v rootL ∧ Below w.heap.size w w' := by
  refine (ipack1b_is w).mono ?_
  rintro e w' ⟨g, rfl, hg, hb, hB⟩
  exact ⟨_, rfl, ob_of_bk (l := rootL) hb hg (by decide) (c := 32) rfl, hB⟩
end Go.Proofs.YtnbhohaphmilmaaGreatDoor
