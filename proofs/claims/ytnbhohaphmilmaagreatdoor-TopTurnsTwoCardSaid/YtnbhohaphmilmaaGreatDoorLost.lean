/- The walk of inode.Unpack at the root. Printed by gen_unpk.py. The walk of check.Tree. The walk of orphan.Lost at the nodes of a disk on which nothing is. -/
import Derived.Test.YtnbhohaphmilmaaGreatDoorInode3
import Derived.Deep.RegionHeld3
import Derived.Test.YtnbhohaphmilmaaGreatDoorInode
namespace Go.Proofs.YtnbhohaphmilmaaGreatDoor
open Go.RowKit
set_option linter.unusedVariables false
set_option linter.unusedSimpArgs false
theorem st_ino1 (p v : Value) : Instr.storeAt 154 p v = stR 154 p v := rfl
attribute [local go_sem ↓] ld_ino st_ino1
set_option maxRecDepth 100000 in
set_option maxHeartbeats 4000000 in
theorem iunpack1_is {w : World} {v : Value} (hv : At (Value.int .u8) 0 w v rootL) : Calls Tryz.prog 121 #[v] w fun e w' => e = .returned (.tuple #[.agg (nodeA 2 493 1 1), .int .i64 0]) ∧ Below w.heap.size w w' := by
  have HV := Lib.hid hv
  obtain ⟨a, cap, rfl, hl, hcm, -⟩ := hv
  rw [show rootL.length = 32 from rfl] at hl HV ⊢
  rcases At.cellB HV.out with e | ⟨b, o, rfl, hlt, hc⟩
  · cases e
  have HC := Lib.hid hc
  have HLT := Lib.hid hlt
  have HCM := Lib.hid hcm
  clear hc hlt hcm
  go_enter Tryz.func121, Tryz.ntmps121
  go_upto_region 3 with fail
  have HB0 := Lib.hid (Go.Joins.below_alloc1 w (.cells #[.int .i64 0, .int .i64 0, .int .i64 0, .int .i64 0, .int .i64 0, .int .i64 0, .int .i64 0, .slice none 0 0] 154))
  have HR0 : Hid (Row (w.alloc (.cells #[.int .i64 0, .int .i64 0, .int .i64 0, .int .i64 0, .int .i64 0, .int .i64 0, .int .i64 0, .slice none 0 0] 154)) w.heap.size 154 (nodeA 0 0 0 0)) := Lib.hid (row_new w _ _)
  have HV0 := Lib.hid (HV.out.keep HB0.out)
  have HLT0 : Hid (b < (w.alloc (.cells #[.int .i64 0, .int .i64 0, .int .i64 0, .int .i64 0, .int .i64 0, .int .i64 0, .int .i64 0, .slice none 0 0] 154)).heap.size) := Lib.hid (Nat.lt_of_lt_of_le HLT.out HB0.out.size)
  have HC0 : Hid (∀ i, i < 32 → (w.alloc (.cells #[.int .i64 0, .int .i64 0, .int .i64 0, .int .i64 0, .int .i64 0, .int .i64 0, .int .i64 0, .slice none 0 0] 154)).cell? ⟨b, o + i, none⟩ = some (.int .u8 (rootL.getD i 0))) := Lib.hid (fun i hi => by rw [HB0.out.cell (p := ⟨b, o + i, none⟩) HLT.out, HC.out i hi])
  generalize w.alloc (.cells #[.int .i64 0, .int .i64 0, .int .i64 0, .int .i64 0, .int .i64 0, .int .i64 0, .int .i64 0, .slice none 0 0] 154) = w0 at *
  have HS : Hid (w0.cell? ⟨b, o, none⟩ = some (.int .u8 2) ∧ w0.cell? ⟨b, o + 1, none⟩ = some (.int .u8 237) ∧ w0.cell? ⟨b, o + 2, none⟩ = some (.int .u8 1) ∧ w0.cell? ⟨b, o + 3, none⟩ = some (.int .u8 0) ∧ w0.cell? ⟨b, o + 4, none⟩ = some (.int .u8 0) ∧ w0.cell? ⟨b, o + 5, none⟩ = some (.int .u8 0) ∧ w0.cell? ⟨b, o + 6, none⟩ = some (.int .u8 0) ∧ w0.cell? ⟨b, o + 7, none⟩ = some (.int .u8 1) ∧ w0.cell? ⟨b, o + 8, none⟩ = some (.int .u8 1)) := Lib.hid ⟨HC0.out 0 (by decide), HC0.out 1 (by decide), HC0.out 2 (by decide), HC0.out 3 (by decide), HC0.out 4 (by decide), HC0.out 5 (by decide), HC0.out 6 (by decide), HC0.out 7 (by decide), HC0.out 8 (by decide)⟩
  have HSA : Hid (∀ ob, (w0.alloc ob).cell? ⟨b, o, none⟩ = some (.int .u8 2) ∧ (w0.alloc ob).cell? ⟨b, o + 1, none⟩ = some (.int .u8 237) ∧ (w0.alloc ob).cell? ⟨b, o + 2, none⟩ = some (.int .u8 1) ∧ (w0.alloc ob).cell? ⟨b, o + 3, none⟩ = some (.int .u8 0) ∧ (w0.alloc ob).cell? ⟨b, o + 4, none⟩ = some (.int .u8 0) ∧ (w0.alloc ob).cell? ⟨b, o + 5, none⟩ = some (.int .u8 0) ∧ (w0.alloc ob).cell? ⟨b, o + 6, none⟩ = some (.int .u8 0) ∧ (w0.alloc ob).cell? ⟨b, o + 7, none⟩ = some (.int .u8 1) ∧ (w0.alloc ob).cell? ⟨b, o + 8, none⟩ = some (.int .u8 1)) := Lib.hid (fun ob => by
    have h := HS.out
    have k : ∀ j, (w0.alloc ob).cell? ⟨b, j, none⟩ = w0.cell? ⟨b, j, none⟩ := fun j => World.cell?_alloc_lt _ _ _ HLT0.out
    simp only [k]
    exact h)
  have HR1 : Hid (Row ((w0.alloc (.cells #[.int .i64 0, .int .i64 0, .int .i64 0, .int .i64 0, .int .i64 0, .int .i64 0, .int .i64 0, .slice none 0 0] 154)).drew) w0.heap.size 154 #[.int .i64 0, .int .i64 0, .int .i64 0, .int .i64 0, .int .i64 0, .int .i64 0, .int .i64 0, .slice none 0 0]) := Lib.hid (row_new w0 154 #[.int .i64 0, .int .i64 0, .int .i64 0, .int .i64 0, .int .i64 0, .int .i64 0, .int .i64 0, .slice none 0 0]).drew
  have eN : #[.int .i64 (IntKind.i64.wrap 2), .int .i64 (bits BinOp.or IntKind.i64 (IntKind.i64.wrap 237) (IntKind.i64.wrap ((IntKind.i64.wrap 1) * 256))), .int .i64 (IntKind.i64.wrap 0), .int .i64 (IntKind.i64.wrap 0), .int .i64 (bits BinOp.or IntKind.i64 (IntKind.i64.wrap 0) (IntKind.i64.wrap ((IntKind.i64.wrap 0) * 256))), .int .i64 (IntKind.i64.wrap 1), .int .i64 (IntKind.i64.wrap 1), .slice none 0 0] = (nodeA 2 493 1 1) := by rfl
  have stn : (stR 154 (.pointer (some ⟨w0.heap.size, 0, none⟩)) (.agg #[.int .i64 (IntKind.i64.wrap 2), .int .i64 (bits BinOp.or IntKind.i64 (IntKind.i64.wrap 237) (IntKind.i64.wrap ((IntKind.i64.wrap 1) * 256))), .int .i64 (IntKind.i64.wrap 0), .int .i64 (IntKind.i64.wrap 0), .int .i64 (bits BinOp.or IntKind.i64 (IntKind.i64.wrap 0) (IntKind.i64.wrap ((IntKind.i64.wrap 0) * 256))), .int .i64 (IntKind.i64.wrap 1), .int .i64 (IntKind.i64.wrap 1), .slice none 0 0])).run Tryz.prog ((w0.alloc (.cells #[.int .i64 0, .int .i64 0, .int .i64 0, .int .i64 0, .int .i64 0, .int .i64 0, .int .i64 0, .slice none 0 0] 154)).drew) = .ok () (((w0.alloc (.cells #[.int .i64 0, .int .i64 0, .int .i64 0, .int .i64 0, .int .i64 0, .int .i64 0, .int .i64 0, .slice none 0 0] 154)).drew).setRow w0.heap.size (nodeA 2 493 1 1)) := by
    rw [HR1.out.st0 (cs := #[.int .i64 (IntKind.i64.wrap 2), .int .i64 (bits BinOp.or IntKind.i64 (IntKind.i64.wrap 237) (IntKind.i64.wrap ((IntKind.i64.wrap 1) * 256))), .int .i64 (IntKind.i64.wrap 0), .int .i64 (IntKind.i64.wrap 0), .int .i64 (bits BinOp.or IntKind.i64 (IntKind.i64.wrap 0) (IntKind.i64.wrap ((IntKind.i64.wrap 0) * 256))), .int .i64 (IntKind.i64.wrap 1), .int .i64 (IntKind.i64.wrap 1), .slice none 0 0]) rfl (by kernel_rfl) (by rw [eN]; simp [nodeA, Value.oneCell']), eN]
  have HR2 := Lib.hid (HR1.out.setRow (nodeA 2 493 1 1))
  have HW2 := Lib.hid (((Go.Joins.below_alloc1 w0 (.cells #[.int .i64 0, .int .i64 0, .int .i64 0, .int .i64 0, .int .i64 0, .int .i64 0, .int .i64 0, .slice none 0 0] 154)).drew).trans (Upd.toBelow (Upd.setRow ((w0.alloc (.cells #[.int .i64 0, .int .i64 0, .int .i64 0, .int .i64 0, .int .i64 0, .int .i64 0, .int .i64 0, .slice none 0 0] 154)).drew) (b := w0.heap.size) (nodeA 2 493 1 1) (S := fun k => k = w0.heap.size) rfl) (by simp [World.drew]) (by omega)))
  have HS2 : Hid ((((w0.alloc (.cells #[.int .i64 0, .int .i64 0, .int .i64 0, .int .i64 0, .int .i64 0, .int .i64 0, .int .i64 0, .slice none 0 0] 154)).drew).setRow w0.heap.size (nodeA 2 493 1 1)).cell? ⟨b, o, none⟩ = some (.int .u8 2) ∧ (((w0.alloc (.cells #[.int .i64 0, .int .i64 0, .int .i64 0, .int .i64 0, .int .i64 0, .int .i64 0, .int .i64 0, .slice none 0 0] 154)).drew).setRow w0.heap.size (nodeA 2 493 1 1)).cell? ⟨b, o + 1, none⟩ = some (.int .u8 237) ∧ (((w0.alloc (.cells #[.int .i64 0, .int .i64 0, .int .i64 0, .int .i64 0, .int .i64 0, .int .i64 0, .int .i64 0, .slice none 0 0] 154)).drew).setRow w0.heap.size (nodeA 2 493 1 1)).cell? ⟨b, o + 2, none⟩ = some (.int .u8 1) ∧ (((w0.alloc (.cells #[.int .i64 0, .int .i64 0, .int .i64 0, .int .i64 0, .int .i64 0, .int .i64 0, .int .i64 0, .slice none 0 0] 154)).drew).setRow w0.heap.size (nodeA 2 493 1 1)).cell? ⟨b, o + 3, none⟩ = some (.int .u8 0) ∧ (((w0.alloc (.cells #[.int .i64 0, .int .i64 0, .int .i64 0, .int .i64 0, .int .i64 0, .int .i64 0, .int .i64 0, .slice none 0 0] 154)).drew).setRow w0.heap.size (nodeA 2 493 1 1)).cell? ⟨b, o + 4, none⟩ = some (.int .u8 0) ∧ (((w0.alloc (.cells #[.int .i64 0, .int .i64 0, .int .i64 0, .int .i64 0, .int .i64 0, .int .i64 0, .int .i64 0, .slice none 0 0] 154)).drew).setRow w0.heap.size (nodeA 2 493 1 1)).cell? ⟨b, o + 5, none⟩ = some (.int .u8 0) ∧ (((w0.alloc (.cells #[.int .i64 0, .int .i64 0, .int .i64 0, .int .i64 0, .int .i64 0, .int .i64 0, .int .i64 0, .slice none 0 0] 154)).drew).setRow w0.heap.size (nodeA 2 493 1 1)).cell? ⟨b, o + 6, none⟩ = some (.int .u8 0) ∧ (((w0.alloc (.cells #[.int .i64 0, .int .i64 0, .int .i64 0, .int .i64 0, .int .i64 0, .int .i64 0, .int .i64 0, .slice none 0 0] 154)).drew).setRow w0.heap.size (nodeA 2 493 1 1)).cell? ⟨b, o + 7, none⟩ = some (.int .u8 1) ∧ (((w0.alloc (.cells #[.int .i64 0, .int .i64 0, .int .i64 0, .int .i64 0, .int .i64 0, .int .i64 0, .int .i64 0, .slice none 0 0] 154)).drew).setRow w0.heap.size (nodeA 2 493 1 1)).cell? ⟨b, o + 8, none⟩ = some (.int .u8 1)) := Lib.hid (by
    have h := HS.out
    have k : ∀ j, ((((w0.alloc (.cells #[.int .i64 0, .int .i64 0, .int .i64 0, .int .i64 0, .int .i64 0, .int .i64 0, .int .i64 0, .slice none 0 0] 154)).drew).setRow w0.heap.size (nodeA 2 493 1 1))).cell? ⟨b, j, none⟩ = w0.cell? ⟨b, j, none⟩ := fun j => HW2.out.cell (p := ⟨b, j, none⟩) HLT0.out
    simp only [k]
    exact h)
  clear HC eN
  generalize hw2 : ((w0.alloc (.cells #[.int .i64 0, .int .i64 0, .int .i64 0, .int .i64 0, .int .i64 0, .int .i64 0, .int .i64 0, .slice none 0 0] 154)).drew).setRow w0.heap.size (nodeA 2 493 1 1) = w2 at *
  clear hw2
  go_region_held3 (fun wx => wx.cell? ⟨b, o, none⟩ = some (.int .u8 2) ∧ wx.cell? ⟨b, o + 1, none⟩ = some (.int .u8 237) ∧ wx.cell? ⟨b, o + 2, none⟩ = some (.int .u8 1) ∧ wx.cell? ⟨b, o + 3, none⟩ = some (.int .u8 0) ∧ wx.cell? ⟨b, o + 4, none⟩ = some (.int .u8 0) ∧ wx.cell? ⟨b, o + 5, none⟩ = some (.int .u8 0) ∧ wx.cell? ⟨b, o + 6, none⟩ = some (.int .u8 0) ∧ wx.cell? ⟨b, o + 7, none⟩ = some (.int .u8 1) ∧ wx.cell? ⟨b, o + 8, none⟩ = some (.int .u8 1)) (first | assumption | exact HS.out | exact HSA.out _ | exact HS2.out) (first | fail)
  clear stn HS HSA HR1 HS2
  have HLZ : Hid (w.heap.size < w0.heap.size) := Lib.hid HR0.out.lt
  have HR02 := Lib.hid (HR0.out.keep HW2.out)
  have HV2 := Lib.hid (HV0.out.keep HW2.out)
  have HB2 := Lib.hid (HB0.out.trans (HW2.out.mono HB0.out.size))
  obtain ⟨q, hq⟩ : ∃ q, q = w0.heap.size := ⟨_, rfl⟩
  have HX : Hid (At (Value.int .u8) 0 w2 (.slice (some ⟨b, o + 9, none⟩) 16 (cap - 9)) (zeros 16)) := Lib.hid (by
    refine ⟨_, _, rfl, by rw [zeros_len]; omega, by have := HCM.out; omega, .inr ⟨b, o + 9, rfl, Nat.lt_of_lt_of_le HLT0.out HW2.out.size, fun i hi => ?_⟩⟩
    rw [zeros_len] at hi
    rw [HW2.out.cell (p := ⟨b, o + 9 + i, none⟩) HLT0.out, show o + 9 + i = o + (9 + i) by omega, HC0.out (9 + i) (by omega), zeros_get]
    have : i = 0 ∨ i = 1 ∨ i = 2 ∨ i = 3 ∨ i = 4 ∨ i = 5 ∨ i = 6 ∨ i = 7 ∨ i = 8 ∨ i = 9 ∨ i = 10 ∨ i = 11 ∨ i = 12 ∨ i = 13 ∨ i = 14 ∨ i = 15 := by omega
    rcases this with rfl | rfl | rfl | rfl | rfl | rfl | rfl | rfl | rfl | rfl | rfl | rfl | rfl | rfl | rfl | rfl <;> rfl)
  have HXU := Lib.hid (xunpack_is HX.out)
  clear HC0 HR0 HV0 HV HB0 HX HW2
  have b1 : 25 ≤ cap := by omega
  have b2 : ¬ cap = 9 := by omega
  clear hq
  go_upto_region 5 with (go_at_call 198; refine HXU.out.mono ?_; rintro e3 w3 ⟨rfl, hb3⟩)
  have HB3 := Lib.hid (HB2.out.trans (hb3.mono HB2.out.size))
  have HR3 := Lib.hid (HR2.out.keep hb3)
  have HR03 := Lib.hid (HR02.out.keep hb3)
  have HV3 := Lib.hid (HV2.out.keep hb3)
  clear HB2 HR2 HR02 HV2 HXU hb3
  have c7 : w3.cell? ⟨w0.heap.size, 7, none⟩ = some (.slice none 0 0) := by rw [HR3.out.cell]; rfl
  have f7 := HR3.out.fz 7
  have u4 : Upd (fun k => k = w0.heap.size) w3 (w3.setCell ⟨w0.heap.size, 7, none⟩ (.slice none 0 0)) := Upd.set _ _ rfl
  have HR4 : Hid (Row (w3.setCell ⟨w0.heap.size, 7, none⟩ (.slice none 0 0)) w0.heap.size 154 (nodeA 2 493 1 1)) := Lib.hid (by
    rw [HR3.out.setCell]; exact HR3.out.setRow _)
  have HR04 := Lib.hid (HR03.out.upd u4 (by have := HLZ.out; omega))
  have HB4 := Lib.hid (HB3.out.trans (u4.toBelow HB3.out.size (by have := HLZ.out; omega)))
  have HV4 : Hid (At (Value.int .u8) 0 (w3.setCell ⟨w0.heap.size, 7, none⟩ (.slice none 0 0)) (.slice (some ⟨b, o, none⟩) 32 cap) rootL) := Lib.hid (by
    obtain ⟨a', cap', e1, e2, e3, e4⟩ := HV3.out
    refine ⟨a', cap', e1, e2, e3, ?_⟩
    rcases e4 with e4 | ⟨b', o', g1, g2, g3⟩
    · exact .inl e4
    · injection e1 with e1 _ _
      rw [g1] at e1
      injection e1 with e1
      injection e1 with e1 _ _
      refine .inr ⟨b', o', g1, Nat.lt_of_lt_of_le g2 u4.size, fun i hi => ?_⟩
      rw [u4.cell g2 (by have := HLT0.out; omega)]
      exact g3 i hi)
  clear HR3 HR03 HB3 HV3 u4
  go_upto_region 8 with fail
  clear c7 f7
  generalize w3.setCell ⟨w0.heap.size, 7, none⟩ (.slice none 0 0) = w4 at *
  have l4 := HR4.out.ld0 Tryz.underlying154 rfl (by kernel_rfl)
  have HP := Lib.hid (ipack1_is w4)
  obtain ⟨N, hN⟩ : ∃ N, N = (nodeA 2 493 1 1) := ⟨_, rfl⟩
  rw [← hN] at l4 HP HR4
  have HNN := Lib.hid hN
  clear hN
  go_upto_region 9 with (go_at_call 58; refine HP.out.mono ?_; rintro e5 w5 ⟨v5, rfl, ho5, hb5⟩)
  have HB5 := Lib.hid (HB4.out.trans (hb5.mono HB4.out.size))
  have HR5 := Lib.hid (HR4.out.keep hb5)
  have HR05 := Lib.hid (HR04.out.keep hb5)
  have HEQ := Lib.hid (equalB_is (by decide) ho5.at (HV4.out.keep hb5))
  clear HP HB4 HR4 HR04 HV4 ho5 hb5 l4
  go_upto_region 11 with (go_at_call 62; refine HEQ.out.mono ?_; rintro e6 w6 ⟨rfl, hb6⟩)
  have HB6 := Lib.hid (HB5.out.trans (hb6.mono HB5.out.size))
  have HR6 := HR5.out.keep hb6
  have HR06 := HR05.out.keep hb6
  have l6 := HR6.ld0 Tryz.underlying154 rfl (by rw [HNN.out]; kernel_rfl)
  have s6 := HR06.st0 (cs := N) (by rw [HNN.out] <;> rfl) (by rw [HNN.out]; kernel_rfl) (by rw [HNN.out]; simp [nodeA, Value.oneCell'])
  have l7 := (HR06.setRow N).ldV Tryz.underlying154 rfl (by rw [HNN.out]; kernel_rfl)
  have HB7 := Lib.hid (HB6.out.trans (Upd.toBelow (Upd.setRow w6 N (b := w.heap.size) (S := fun k => k = w.heap.size) rfl) HB6.out.size (by omega)))
  generalize w6.setRow w.heap.size N = w7 at *
  clear HR6 HR06 hb6 HEQ HB5 HR5 HR05
  go_wp2_with fail
  exact bodyPost_ret (v := .tuple #[.agg N, .int .i64 0]) (by rw [results_cell_tmp rfl]; simp [asAddr, Result.andThen, l7]) rfl ⟨by rw [HNN.out], HB7.out⟩
end Go.Proofs.YtnbhohaphmilmaaGreatDoor
namespace Go.Proofs.YtnbhohaphmilmaaGreatDoor
open Go.RowKit
set_option linter.unusedVariables false
set_option linter.unusedSimpArgs false
def kk (c : Nat) : Int := if c = 0 then 2 else 0
def mm (c : Nat) : Int := if c = 0 then 493 else 0
def ll (c : Nat) : Int := if c = 0 then 1 else 0
/-- node c of a disk on which nothing is -/
def nodeI (c : Nat) : Array Value := nodeA (kk c) (mm c) (ll c) (ll c)
def nodeB (c : Nat) : List Int := if c = 0 then rootL else zeros 32
def ndC (n : Nat) : List Value := (List.range n).flatMap (fun c => (nodeI c).toList)
theorem ndC_next (n : Nat) : ndC (n + 1) = ndC n ++ (nodeI n).toList := by
  unfold ndC
  rw [List.range_succ, List.flatMap_append]
  simp
theorem ndC_len (n : Nat) : (ndC n).length = n * 8 := by
  induction n with
  | zero => rfl
  | succ n ih => rw [ndC_next, List.length_append, ih]; simp [nodeI, nodeA]; omega
theorem nodeB_len (c : Nat) : (nodeB c).length = 32 := by unfold nodeB; split <;> rfl
theorem iunpack_is {w : World} {v : Value} {c : Nat} (hv : At (Value.int .u8) 0 w v (nodeB c)) : Calls Tryz.prog 121 #[v] w fun e w' => e = .returned (.tuple #[.agg (nodeI c), .int .i64 0]) ∧ Below w.heap.size w w' := by
  unfold nodeI nodeB kk mm ll at *
  by_cases h : c = 0
  · rw [if_pos h] at hv ⊢
    rw [if_pos h, if_pos h]
    exact iunpack1_is hv
  · rw [if_neg h] at hv ⊢
    rw [if_neg h, if_neg h]
    exact iunpack0_is hv
theorem treA_nod (G : Nat → Nat) : (treA G).extract 0 (0 + 16) = nodA G := by
  apply Array.ext
  · simp [treA_size, nodA_size]
  · intro i h1 h2
    have hi : i < 16 := by simpa [nodA_size] using h2
    simp only [Array.getElem_extract, treA, nodA, Array.getElem_ofFn, fV]
    rw [if_pos (by omega)]
    simp
def appN := Builtin.append_ #[163, 163] 163
theorem appN_eq : Builtin.append_ #[163, 163] 163 = appN := rfl
theorem infoN : (Tryz.prog.info? 154).map (fun i => (i.zero, i.size, i.bytes)) = some (some (.agg (nodeA 0 0 0 0)), 8, 80) := by kernel_rfl
/-- nodes that a call owns -/
def ON (B : Nat) (w : World) (v : Value) (n : Nat) : Prop := w.ownsRow B 154 8 v n (ndC n)
theorem ON.keep {B n : Nat} {w w' : World} {v : Value} (h : ON B w v n) (hb : Below w.heap.size w w') : ON B w' v n := owns_keep h hb
theorem ON.push {B n : Nat} {w : World} {v : Value} (h : ON B w v n) (hB : B ≤ w.heap.size) (h64 : n < 1000) :
    ∃ p c' w', (appN #[v, .slice (some ⟨w.heap.size, 0, none⟩) 1 1]).run Tryz.prog (w.alloc (.cells (nodeI n) 154)) = .ok (.slice p (n + 1) c') w' ∧ ON B w' (.slice p (n + 1) c') (n + 1) ∧ Below B w w' ∧ (w.alloc (.cells (nodeI n) 154)).grownBy w' v.ownBlock ∧ ((Value.slice p (n + 1) c').ownBlock = v.ownBlock ∨ ∃ g, w.heap.size ≤ g ∧ (Value.slice p (n + 1) c').ownBlock = some g) := by
  obtain ⟨i0, hi, hz0, hz1, hz2⟩ := info_parts infoN
  have hal := (Below.refl B w).alloc hB (.cells (nodeI n) 154)
  obtain ⟨v', w', hr, ho, hg, hfr⟩ := run_append_fresh (P := Tryz.prog) (w.alloc (.cells (nodeI n) 154)) B 163 163 154 i0 _ 8 80 Tryz.underlying163 hi hz0 hz1 hz2 rfl (by decide) v n (ndC n) (h.keep (Go.Joins.below_alloc1 w _)) ⟨w.heap.size, 0, none⟩ 1 1 (nodeI n).toList (by simp [nodeI, nodeA]) (by
      have := cells_new w (nodeI n).toList 154
      rw [Array.toArray_toList] at this
      exact this) (by intro u hu; simp [nodeI, nodeA] at hu; rcases hu with rfl | rfl | rfl | rfl | rfl <;> rfl) (by unfold maxLen; omega) (by omega) (Nat.le_trans hB hal.size)
  obtain ⟨p, c', rfl⟩ := own_form ho
  rw [← ndC_next] at ho
  exact ⟨p, c', w', hr, ho, hal.trans ((Below.refl B _).grown hg (Nat.le_trans hB hal.size) (fun g hgg => ((h.lt g hgg).1))), hg, by
    rcases hfr with e | ⟨g, hg, e⟩
    · exact .inl e
    · exact .inr ⟨g, Nat.le_trans (Go.Joins.below_alloc1 w _).size hg, e⟩⟩
/-- the nodes' sectors of a disk on which nothing is -/
def NS (f : List Int) : Prop := ∀ i h, i < 16 → h < 2 → ∀ j, j < 32 → f.getD ((37 + i) * 64 + (32 * h + j)) 0 = (nodeB (2 * i + h)).getD j 0
/-- a sector that was read, apart from a slice -/
structure Sec (w : World) (v : Value) (b o : Nat) (f : List Int) (i : Nat) : Prop where
  lt : b < w.heap.size
  ap : v.ownBlock ≠ some b
  cl : ∀ j, j < 64 → w.cell? ⟨b, o + j, none⟩ = some (.int .u8 (f.getD ((37 + i) * 64 + j) 0))
theorem Sec.keep {w w' : World} {v : Value} {b o i : Nat} {f : List Int} (h : Sec w v b o f i) (hb : Below w.heap.size w w') : Sec w' v b o f i :=
  ⟨Nat.lt_of_lt_of_le h.lt hb.size, h.ap, fun j hj => (hb.cell (p := ⟨b, o + j, none⟩) h.lt).trans (h.cl j hj)⟩
theorem Sec.push {w w' : World} {v v' : Value} {b o i : Nat} {f : List Int} {ob : Obj} (h : Sec w v b o f i) (hg : (w.alloc ob).grownBy w' v.ownBlock) (hf : v'.ownBlock = v.ownBlock ∨ ∃ g, w.heap.size ≤ g ∧ v'.ownBlock = some g) : Sec w' v' b o f i := by
  have h1 := h.keep (Go.Joins.below_alloc1 w ob)
  refine ⟨Nat.lt_of_lt_of_le h1.lt hg.size, ?_, fun j hj => (grown_cell hg h1.lt (fun e => h.ap e.symm)).trans (h1.cl j hj)⟩
  rcases hf with e | ⟨g, hl, e⟩
  · rw [e]; exact h.ap
  · rw [e]; intro e2; injection e2 with e2; have := h.lt; omega
theorem Sec.at {w : World} {v : Value} {b o i h cap : Nat} {f : List Int} (hs : Sec w v b o f i) (hn : NS f) (hi : i < 16) (hh : h < 2) (hc : 64 ≤ cap) (hm : cap ≤ maxLen) : At (Value.int .u8) 0 w (.slice (some ⟨b, o + 32 * h, none⟩) 32 (cap - 32 * h)) (nodeB (2 * i + h)) := by
  refine ⟨_, _, by rw [nodeB_len], by rw [nodeB_len]; omega, by omega, .inr ⟨b, o + 32 * h, rfl, hs.lt, fun j hj => ?_⟩⟩
  rw [nodeB_len] at hj
  rw [show o + 32 * h + j = o + (32 * h + j) by omega, hs.cl _ (by omega), hn i h hi hh j hj]
def bsR (T n : Nat) (ps : Array (Nat × Value)) : Sem Value := Instr.buildSlice T n ps
theorem bs_nod (ps : Array (Nat × Value)) : Instr.buildSlice 163 1 ps = bsR 163 1 ps := rfl
theorem bsN (w : World) (k m l u : Int) : (bsR 163 1 #[(0, .agg (nodeA k m l u))]).run Tryz.prog w = .ok (.slice (some ⟨w.heap.size, 0, none⟩) 1 1) (w.alloc (.cells (nodeA k m l u) 154)) := by kernel_rfl
theorem st_ino2 (p v : Value) : Instr.storeAt 154 p v = stR 154 p v := rfl
attribute [local go_sem ↓] bs_nod st_ino2 ld_ino ld_nod ix_nod appN_eq
section
variable {w w' : World} {D sb nb m : Nat} {wv : Value} {s f : List Int} {G : Nat → Nat}
set_option maxRecDepth 100000 in
set_option maxHeartbeats 1000000 in
theorem ctree_is (h : Dk w D sb nb wv m 64 s f) (hn : NS f) (hG : ∀ i, i < 16 → G i = 37 + i) : Calls Tryz.prog 65 #[.iface 47 (.pointer (some ⟨D, 0, none⟩)), .agg (treA G)] w fun e w' => ∃ v, e = .returned (.tuple #[v, .int .i64 0]) ∧ ON w.heap.size w' v 32 ∧ Below w.heap.size w w' := by
  have hmr := method_read
  have HD := Lib.hid h
  have HG := Lib.hid hG
  have HN := Lib.hid hn
  have HTA := Lib.hid (treA_size G)
  clear h hG hn
  go_enter Tryz.func65, Tryz.ntmps65
  go_upto_region 1 with fail
  have HR0 : Hid (Row (w.alloc (.cells (treA G) 146)) w.heap.size 146 (treA G)) := Lib.hid (row_new w _ _)
  have HB0 := Lib.hid (Go.Joins.below_alloc1 w (.cells (treA G) 146))
  have HD0 := Lib.hid (HD.out.keep HB0.out)
  have l0 : (ldR 74 (.pointer (some ⟨w.heap.size, 0, none⟩))).run Tryz.prog (w.alloc (.cells (treA G) 146)) = .ok (.agg (nodA G)) (w.alloc (.cells (treA G) 146)) := by
    rw [HR0.out.ld (o := 0) (n := 16) (by rw [HTA.out]; decide) Tryz.underlying74 rfl (by kernel_rfl), treA_nod]
  generalize w.alloc (.cells (treA G) 146) = w0 at *
  clear HD HTA
  have HIX := Lib.hid (show ∀ (w : World) (i : Nat), i < 16 → (ixR 74 (.agg (nodA G)) (.int .i64 i)).run Tryz.prog w = .ok (.int .i64 ((37 + i : Nat) : Int)) w from fun w i hi => by rw [ix_is w G hi, HG.out i hi])
  generalize nodA G = N at *
  go_wp2_with fail
  clear l0 HR0
  go_loopw [6, 16] (fun ov iv wr => ∃ i v, i ≤ 16 ∧ v = ov ∧ iv = .int .i64 (i : Nat) ∧ Hid (Below w.heap.size w0 wr) ∧ Hid (Below w0.heap.size w0 wr) ∧ Hid (ON w0.heap.size wr v (2 * i))) (fun ov iv _ => 16 - (intOf iv).toNat)
  case atStart => exact ⟨0, _, by omega, rfl, rfl, Lib.hid (Below.refl _ _), Lib.hid (Below.refl _ _), Lib.hid (World.ownsRow_nil _ _ _ _)⟩
  case round =>
    obtain ⟨i, v, hi0, rfl, rfl, HB, HBB, HO⟩ := hrel
    by_cases hi : i < 16
    · have j0 : (0 : Int) ≤ i := by omega
      have j1 : (i : Int) < 16 := by omega
      have hx := HIX.out wr i hi
      have HRD := Lib.hid (read_is (HD0.out.keep HBB.out) (k := 37 + i) (by omega))
      have HSL := Lib.hid (sect_len HD0.out.lf (k := 37 + i) (by omega))
      go_upto_region 6 with (go_at_call 61; refine HRD.out.mono ?_; rintro e5 w5 ⟨v5, rfl, ho5, hb5⟩)
      obtain ⟨p5, c5, rfl⟩ := own_form ho5
      obtain ⟨b, o, rfl, hc⟩ := own_cells ho5 HSL.out (by decide)
      have hcap : 64 ≤ c5 ∧ c5 ≤ maxLen := by
        obtain ⟨a', cap', e1, e2, e3, -⟩ := at_of_owned (f := Value.int .u8) (d := 0) (xs := sect f (37 + i)) (by rw [HSL.out]; exact ho5)
        injection e1 with _ _ e1
        rw [HSL.out] at e2
        subst e1
        exact ⟨e2, e3⟩
      have HCAP := Lib.hid hcap
      have hc1 := hcap.1
      have HSEC : Hid (Sec w5 v b o f i) := Lib.hid ⟨(ho5.lt b rfl).2, fun e => by have h1 := (HO.out.lt b e).2; have h2 := (ho5.lt b rfl).1; omega, fun j hj => by
        have := hc j (u8V ((sect f (37 + i)).getD j 0)) (by rw [List.getElem?_map]; simp [List.getD, HSL.out, hj])
        rw [Addr.add_lit] at this
        rw [this, sect_get hj]⟩
      have HB5 := Lib.hid (HB.out.trans (hb5.mono (Nat.le_trans HB0.out.size HBB.out.size)))
      have HBB5 := Lib.hid (HBB.out.trans (hb5.mono HBB.out.size))
      have HO5 : Hid (ON w0.heap.size w5 v (2 * i + 0)) := Lib.hid (HO.out.keep hb5)
      clear HB HBB HO hcap hc ho5 hb5 HRD hx
      go_wp2_with fail
      go_loopw [6, 27] (fun ov hv wr => ∃ h v, h ≤ 2 ∧ v = ov ∧ hv = .int .i64 (h : Nat) ∧ Hid (Below w.heap.size w0 wr) ∧ Hid (Below w0.heap.size w0 wr) ∧ Hid (ON w0.heap.size wr v (2 * i + h)) ∧ Hid (Sec wr v b o f i)) (fun ov hv _ => 2 - (intOf hv).toNat)
      case atStart => exact ⟨0, _, by omega, rfl, rfl, HB5, HBB5, HO5, HSEC⟩
      case round =>
        clear HB5 HBB5 HO5 HSEC
        obtain ⟨h, v, hh0, rfl, rfl, HB, HBB, HO, HSEC⟩ := hrel
        by_cases hh : h < 2
        · have HU := Lib.hid (iunpack_is (HSEC.out.at HN.out hi hh HCAP.out.1 HCAP.out.2))
          have HST := Lib.hid (fun (w : World) => st0_new w (T := 154) (c := #[.int .i64 0, .int .i64 0, .int .i64 0, .int .i64 0, .int .i64 0, .int .i64 0, .int .i64 0, .slice none 0 0]) (cs := nodeI (2 * i + h)) rfl (by kernel_rfl) (by simp [nodeI, nodeA, Value.oneCell']))
          have HBS := Lib.hid (fun (w : World) => bsN w (kk (2 * i + h)) (mm (2 * i + h)) (ll (2 * i + h)) (ll (2 * i + h)))
          change Hid (∀ w : World, (bsR 163 1 #[(0, .agg (nodeI (2 * i + h)))]).run Tryz.prog w = .ok (.slice (some ⟨w.heap.size, 0, none⟩) 1 1) (w.alloc (.cells (nodeI (2 * i + h)) 154))) at HBS
          have HLD := Lib.hid (fun (w : World) (b : Nat) (hr : Row w b 154 (nodeI (2 * i + h))) => hr.ld0 (d := _) Tryz.underlying154 rfl (by kernel_rfl))
          have h01 : h = 0 ∨ h = 1 := by omega
          obtain ⟨A, hA⟩ : ∃ A, A = nodeI (2 * i + h) := ⟨_, rfl⟩
          rw [← hA] at HU HST HBS HLD
          have HAE := Lib.hid hA
          clear hA hh0 hh
          rcases h01 with rfl | rfl
          · go_upto_region 12 with (go_at_call 121; (first | refine HU.out.mono ?_ | (simp only [Nat.reduceSub, Nat.reduceMul, Nat.reduceAdd]; refine HU.out.mono ?_)); rintro e6 w6 ⟨rfl, hb6⟩; have st6 := HST.out w6)
            have HR7 := Lib.hid (row_new w6 154 A)
            have hal := Go.Joins.below_alloc1 w6 (.cells A 154)
            have HB7 := Lib.hid (HB.out.trans ((hb6.trans (hal.mono hb6.size)).mono (Nat.le_trans HB0.out.size HBB.out.size)))
            have HBB7 := Lib.hid (HBB.out.trans ((hb6.trans (hal.mono hb6.size)).mono HBB.out.size))
            have HO7 := Lib.hid ((HO.out.keep hb6).keep hal)
            have HS7 := Lib.hid ((HSEC.out.keep hb6).keep hal)
            clear hb6 hal st6 HB HBB HO HSEC HU HST
            generalize w6.alloc (.cells A 154) = w7 at *
            have l7 := HLD.out w7 _ HR7.out
            have b7 := HBS.out w7
            obtain ⟨p8, c8, w8, hap, ho8, hb8, hg8, hf8⟩ := HO7.out.push HBB7.out.size (by omega)
            rw [← HAE.out] at hap hg8
            have HO8 : Hid (ON w0.heap.size w8 (.slice p8 (2 * i + 0 + 1) c8) (2 * i + 1)) := Lib.hid ho8
            have HB8 := Lib.hid (HB7.out.trans (hb8.mono HB0.out.size))
            have HBB8 := Lib.hid (HBB7.out.trans hb8)
            have HS8 := Lib.hid (HS7.out.push hg8 hf8)
            clear ho8 hb8 hg8 hf8 HO7 HB7 HBB7 HS7
            go_wp2_with fail
            go_roundw
            case rel => exact ⟨1, _, by omega, rfl, by go_num, HB8, HBB8, HO8, HS8⟩
            case measure => simp [intOf]
          · go_upto_region 12 with (go_at_call 121; (first | refine HU.out.mono ?_ | (simp only [Nat.reduceSub, Nat.reduceMul, Nat.reduceAdd]; refine HU.out.mono ?_)); rintro e6 w6 ⟨rfl, hb6⟩; have st6 := HST.out w6)
            have HR7 := Lib.hid (row_new w6 154 A)
            have hal := Go.Joins.below_alloc1 w6 (.cells A 154)
            have HB7 := Lib.hid (HB.out.trans ((hb6.trans (hal.mono hb6.size)).mono (Nat.le_trans HB0.out.size HBB.out.size)))
            have HBB7 := Lib.hid (HBB.out.trans ((hb6.trans (hal.mono hb6.size)).mono HBB.out.size))
            have HO7 := Lib.hid ((HO.out.keep hb6).keep hal)
            have HS7 := Lib.hid ((HSEC.out.keep hb6).keep hal)
            clear hb6 hal st6 HB HBB HO HSEC HU HST
            generalize w6.alloc (.cells A 154) = w7 at *
            have l7 := HLD.out w7 _ HR7.out
            have b7 := HBS.out w7
            obtain ⟨p8, c8, w8, hap, ho8, hb8, hg8, hf8⟩ := HO7.out.push HBB7.out.size (by omega)
            rw [← HAE.out] at hap hg8
            have HO8 : Hid (ON w0.heap.size w8 (.slice p8 (2 * i + 1 + 1) c8) (2 * i + 2)) := Lib.hid ho8
            have HB8 := Lib.hid (HB7.out.trans (hb8.mono HB0.out.size))
            have HBB8 := Lib.hid (HBB7.out.trans hb8)
            have HS8 := Lib.hid (HS7.out.push hg8 hf8)
            clear ho8 hb8 hg8 hf8 HO7 HB7 HBB7 HS7
            go_wp2_with fail
            go_roundw
            case rel => exact ⟨2, _, by omega, rfl, by go_num, HB8, HBB8, HO8, HS8⟩
            case measure => simp [intOf]
        · obtain rfl : h = 2 := by omega
          have HO2 : Hid (ON w0.heap.size wr v (2 * (i + 1))) := HO
          go_wp2_with fail
          go_roundw
          case rel => exact ⟨i + 1, _, by omega, rfl, by go_num, HB, HBB, HO2⟩
          case measure => simp [intOf]; omega
    · obtain rfl : i = 16 := by omega
      go_wp2_with fail
      go_ret2
      exact ⟨_, rfl, owns_base HO.out HB0.out.size, HB0.out.trans HB.out⟩
end
end Go.Proofs.YtnbhohaphmilmaaGreatDoor
namespace Go.Proofs.YtnbhohaphmilmaaGreatDoor
open Go.RowKit
set_option linter.unusedVariables false
set_option linter.unusedSimpArgs false
theorem ndC_get : ∀ (n : Nat) {i j : Nat}, i < n → j < 8 → (ndC n)[i * 8 + j]? = (nodeI i).toList[j]?
  | 0, i, j, h, _ => by omega
  | n + 1, i, j, h, hj => by
    rw [ndC_next]
    by_cases e : i = n
    · subst e
      rw [List.getElem?_append_right (by rw [ndC_len]; omega), ndC_len]
      congr 1
      omega
    · rw [List.getElem?_append_left (by rw [ndC_len]; omega)]
      exact ndC_get n (by omega) hj
theorem ON.ld {B n c g : Nat} {w : World} (h : ON B w (.slice (some ⟨g, 0, none⟩) n c) n) {i : Nat} (hi : i < n) : (ldR 154 (.pointer (some ⟨g, i * 8, none⟩))).run Tryz.prog w = .ok (.agg (nodeI i)) w := by
  have hr : w.rangeAt g (i * 8) (nodeI i).toList := fun j v hv => by
    have hj : j < 8 := by
      have := (List.getElem?_eq_some_iff.1 hv).1
      simpa [nodeI, nodeA] using this
    have := h.cells (g := g) rfl (i * 8 + j) v (by rw [ndC_get n hi hj]; exact hv)
    rw [Addr.add_lit] at this
    simpa using this
  have := run_loadAt_mid (P := Tryz.prog) w g (i * 8) 154 _ _ hr Tryz.underlying154 rfl (by kernel_rfl)
  rw [Array.toArray_toList] at this
  exact this
theorem ON.addr {B n c : Nat} {w : World} {p : Option Addr} (h : ON B w (.slice p n c) n) (h0 : 0 < n) : ∃ g, p = some ⟨g, 0, none⟩ := by
  obtain ⟨g, e, _⟩ := own_block h h0
  exact ⟨g, e⟩
attribute [local go_sem ↓] ld_ino st_ino2
set_option maxRecDepth 100000 in
set_option maxHeartbeats 1000000 in
theorem lost_is {w : World} {B : Nat} {v : Value} (h : ON B w v 32) : Calls Tryz.prog 67 #[v, .slice none 0 0] w fun e w' => e = .returned (.slice none 0 0) ∧ Below w.heap.size w w' := by
  obtain ⟨p, c, rfl⟩ := own_form h
  obtain ⟨g, rfl⟩ := h.addr (by decide)
  have HO := Lib.hid h
  clear h
  go_enter Tryz.func67, Tryz.ntmps67
  go_wp2_with fail
  go_loopw [5, 10] (fun ov iv wr => ∃ i, i ≤ 32 ∧ ov = .slice none 0 0 ∧ iv = .int .i64 (i : Nat) ∧ Hid (Below w.heap.size w wr)) (fun ov iv _ => 32 - (intOf iv).toNat)
  case atStart => exact ⟨0, by omega, rfl, rfl, Lib.hid (Below.refl _ _)⟩
  case round =>
    obtain ⟨i, hi0, rfl, rfl, HB⟩ := hrel
    by_cases hi : i < 32
    · have j0 : (0 : Int) ≤ i := by omega
      have j1 : (i : Int) < 32 := by omega
      have l1 := (HO.out.keep HB.out).ld hi
      have st1 := st0_new wr (T := 154) (c := #[.int .i64 0, .int .i64 0, .int .i64 0, .int .i64 0, .int .i64 0, .int .i64 0, .int .i64 0, .slice none 0 0]) (cs := nodeI i) rfl (by kernel_rfl) (by simp [nodeI, nodeA, Value.oneCell'])
      have HB2 := Lib.hid (HB.out.alloc HB.out.size (.cells (nodeI i) 154))
      have hr := row_new wr 154 (nodeI i)
      have c0 : (wr.alloc (.cells (nodeI i) 154)).cell? ⟨wr.heap.size, 0, none⟩ = some (.int .i64 (kk i)) := by rw [hr.cell]; rfl
      have c5 : (wr.alloc (.cells (nodeI i) 154)).cell? ⟨wr.heap.size, 5, none⟩ = some (.int .i64 (ll i)) := by rw [hr.cell]; rfl
      have d0 : (nodeI i)[0]? = some (.int .i64 (kk i)) := rfl
      have d5 : (nodeI i)[5]? = some (.int .i64 (ll i)) := rfl
      generalize nodeI i = A at *
      clear hr
      by_cases h0 : i = 0
      · subst h0
        rw [show kk 0 = 2 from rfl] at c0 d0
        rw [show ll 0 = 1 from rfl] at c5 d5
        go_wp2_with fail
        go_roundw
        case rel => exact ⟨1, by omega, rfl, by go_num, HB2⟩
        case measure => simp [intOf]
      · rw [show kk i = 0 from if_neg h0] at c0 d0
        go_wp2_with fail
        go_roundw
        case rel => exact ⟨i + 1, by omega, rfl, by go_num, HB2⟩
        case measure => simp [intOf]; omega
    · obtain rfl : i = 32 := by omega
      go_wp2_with fail
      go_ret
      exact ⟨rfl, HB.out⟩
end Go.Proofs.YtnbhohaphmilmaaGreatDoor
