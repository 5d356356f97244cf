/- A kernel that has begun, as one state. Printed by gen_kerx2.py. The first task of a kernel that has begun: who it is. The states of the law of rights, and what its five calls come to. The walk of dir.Out at the one entry "f". The walks of fs's fill, leave, drop where a directory's one block is given back. -/
import Derived.Test.YtlfemcbfclallaaGreatDoorFsA
import Derived.Test.YtlfemcbfclallaaGreatDoorKfC
import Derived.Test.YtlfemcbfclallaaGreatDoorKfH
import Derived.Test.YtlfemcbfclallaaGreatDoorDirI
import Derived.Lib.SliceRun
import Derived.Test.YtlfemcbfclallaaGreatDoorFsX
namespace Go.Proofs.YtlfemcbfclallaaGreatDoor
open Go.RowKit
set_option linter.unusedVariables false
set_option linter.unusedSimpArgs false
theorem KS.toKT2 {w : World} {B K P Wh Fi Pr R M so sp : Nat} {c : Nat → Value} (h : KS w B K P Wh Fi Pr R M so sp c) : ∃ tag T cc wb, KT w ⟨K, Wh, Fi, Pr, R, M, so⟩ (sS0 c tag T cc sp wb) ∧ c 63 = .slice (some ⟨wb, 0, none⟩) 1 1 ∧ ∀ j, tag j ≠ 0 → B ≤ j ∧ (j ≤ M ∨ sp ≤ j) := by
  obtain ⟨T, cc, hru, hspT⟩ := h.ru
  obtain ⟨wb, hc63, hwb, hspw⟩ := h.wd
  obtain ⟨T', C, e, hT⟩ := hru.rows (by decide)
  injection e with e
  injection e with e
  subst e
  have hTw : T ≠ wb := fun e => by
    have r1 := hT.row
    have r2 := hwb
    rw [e] at r1
    have r3 : some (Obj.cells C 186) = some (Obj.cells #[.int .i64 1] 3) := r1.symm.trans r2
    injection r3 with r3
    injection r3 with _ r4
    exact absurd r4 (by decide)
  have b := h.kp.b
  have o := h.or
  refine ⟨fun j => if j = K then 1 else if j = Wh then 2 else if j = Fi then 3 else if j = Pr then 4 else if j = R ∨ j = T then 5 else if j = M ∨ j = so ∨ j = sp then 6 else if j = wb then 7 else 0, T, cc, wb, ⟨h.kr, h.c1, h.c4, h.c5, h.c6, h.c7, h.kp.wh, h.kp.fi, h.kp.pr, hru, mem0 h.mm h.om h.im o.2.2.1 o.2.2.2, fun p q hq => ?_, ?_, ?_, ?_, ?_, fun j hj => ?_, fun j hj => ?_, fun j hj => ?_⟩, hc63, fun j hj => ⟨?_, ?_⟩⟩
  · simp only [sS0] at hq
    split at hq
    · rename_i hp
      injection hq with hq
      subst hp
      subst hq
      refine ⟨⟨1, hc63⟩, by rw [hwb.cell]; rfl, hwb.lt, ?_⟩
      simp only [sS0]
      rw [if_neg (by omega), if_neg (by omega), if_neg (by omega), if_neg (by omega), if_neg (by omega), if_neg (by omega), if_pos trivial]
    · cases hq
  · simp only [sS0]; rw [if_pos trivial]
  · simp only [sS0]; rw [if_neg (by omega), if_pos trivial]
  · simp only [sS0]; rw [if_neg (by omega), if_neg (by omega), if_pos trivial]
  · simp only [sS0]; rw [if_neg (by omega), if_neg (by omega), if_neg (by omega), if_pos trivial]
  · have hj : j = R ∨ j = T := by
      rcases hj with q | ⟨a, q, q2⟩
      · exact .inl q
      · simp only [sS0] at q
        injection q with q
        subst q
        exact .inr q2
    simp only [sS0]
    rw [if_neg (by omega), if_neg (by omega), if_neg (by omega), if_neg (by omega), if_pos hj]
  · have hj : j = M ∨ j = so ∨ j = sp := by
      rcases hj with q | q | q | ⟨x, q⟩ | q
      · exact .inl q
      · exact .inr (.inl q)
      · cases q
      · simp only [sS0, mS0] at q
        split at q
        · injection q with q; exact .inr (.inr q.symm)
        · cases q
      · cases q
    have n : ¬ (j = R ∨ j = T) := by omega
    simp only [sS0]
    rw [if_neg (by omega), if_neg (by omega), if_neg (by omega), if_neg (by omega), if_neg n, if_pos hj]
  · have l1 := h.kr.lt
    have l2 := hru.lt
    have l3 := hT.row.lt
    have l4 := h.mm.lt
    have l5 := hwb.lt
    obtain ⟨D, ⟨es, ck, hb, _⟩, _⟩ := h.im
    have l6 := (Array.getElem?_eq_some_iff.1 hb).1
    simp only [sS0]
    rw [if_neg (by omega), if_neg (by omega), if_neg (by omega), if_neg (by omega), if_neg (by omega), if_neg (by omega), if_neg (by omega)]
  · rcases Nat.lt_or_ge j B with q | q
    · exfalso
      apply hj
      simp only
      rw [if_neg (by omega), if_neg (by omega), if_neg (by omega), if_neg (by omega), if_neg (by omega), if_neg (by omega), if_neg (by omega)]
    · exact q
  · by_cases q : j ≤ M ∨ sp ≤ j
    · exact q
    · exfalso
      apply hj
      simp only
      rw [if_neg (by omega), if_neg (by omega), if_neg (by omega), if_neg (by omega), if_neg (by omega), if_neg (by omega), if_neg (by omega)]
end Go.Proofs.YtlfemcbfclallaaGreatDoor
namespace Go.Proofs.YtlfemcbfclallaaGreatDoor
open Go.RowKit
set_option linter.unusedVariables false
set_option linter.unusedSimpArgs false
section
variable {w : World} {B K P Wh Fi Pr R M so sp Tb cc wb : Nat} {c : Nat → Value} {tag : Nat → Nat}
theorem who1 (hs : KS w B K P Wh Fi Pr R M so sp c) (h63 : c 63 = .slice (some ⟨wb, 0, none⟩) 1 1) (hg : w.cell? ⟨wb, 0, none⟩ = some (.int .i64 1)) : Who w (sS0 c tag Tb cc sp wb) 1 0 127 none 0 wb 1 := by
  obtain ⟨h0, h1, h2, h3, h4, h5, h6⟩ := hs.tk
  refine ⟨by decide, fun i hi => ?_, h63, ?_, hg, Nat.zero_le _, by decide, by decide, by decide, by decide⟩
  · have : i = 0 ∨ i = 1 ∨ i = 2 ∨ i = 3 ∨ i = 4 ∨ i = 5 := by omega
    rcases this with rfl | rfl | rfl | rfl | rfl | rfl
    · exact congrArg some h1.symm
    · exact congrArg some h2.symm
    · exact congrArg some h3.symm
    · exact congrArg some h4.symm
    · exact congrArg some h5.symm
    · exact congrArg some h6.symm
  · show c 64 = _
    rw [hs.ck 64 (by decide) (by decide) (.inr (by decide))]
    unfold kz
    kernel_rfl
end
end Go.Proofs.YtlfemcbfclallaaGreatDoor
namespace Go.Proofs.YtlfemcbfclallaaGreatDoor
open Go.RowKit
set_option linter.unusedVariables false
set_option linter.unusedSimpArgs false
section
variable {w : World} {B K P Wh Fi Pr R M so sp Tb cc wb : Nat} {c : Nat → Value} {tag : Nat → Nat}
structure Q2 (s : KSt) (g j k0 : Nat) : Prop where
  c1 : Calm s.c 1
  c2 : Calm s.c 2
  t : s.t = t1
  fd : ∀ i, i < 8 → i ≠ j → s.fd (2 * 8 + i) = 0
  fs : ∀ i, i < 32 → i ≠ k0 → (s.fs i).n = 0
  cr : ∀ i, 11 ≤ i → i ≤ 16 → i ≠ 13 → s.c (8 + 2 * 38 + i) = (if i = 14 then .int .i64 127 else .int .i64 0)
  mo : ∃ b5, s.c (8 + 2 * 38 + 13) = .slice (some ⟨b5, 0, none⟩) 0 0
  wd : ∃ cp, s.c (8 + 2 * 38 + 17) = .slice (some ⟨g, 0, none⟩) 1 cp ∧ 1 ≤ cp ∧ cp ≤ maxLen
  mt : s.c (8 + 2 * 38 + 18) = .slice none 0 0
theorem Q2.who {w : World} {s : KSt} {g j k0 : Nat} (h : Q2 s g j k0) (hg : w.cell? ⟨g, 0, none⟩ = some (.int .i64 1)) : ∃ b5 cp, Who w s 2 0 127 (some ⟨b5, 0, none⟩) 0 g cp := by
  obtain ⟨b5, hm⟩ := h.mo
  obtain ⟨cp, hw, h1, h2⟩ := h.wd
  refine ⟨b5, cp, by decide, fun i hi => ?_, hw, h.mt, hg, Nat.zero_le _, h1, h2, by decide, by decide⟩
  have : i = 0 ∨ i = 1 ∨ i = 2 ∨ i = 3 ∨ i = 4 ∨ i = 5 := by omega
  rcases this with rfl | rfl | rfl | rfl | rfl | rfl
  · exact congrArg some (h.cr 11 (by decide) (by decide) (by decide)).symm
  · exact congrArg some (h.cr 12 (by decide) (by decide) (by decide)).symm
  · exact congrArg some hm.symm
  · exact congrArg some (h.cr 14 (by decide) (by decide) (by decide)).symm
  · exact congrArg some (h.cr 15 (by decide) (by decide) (by decide)).symm
  · exact congrArg some (h.cr 16 (by decide) (by decide) (by decide)).symm
end
end Go.Proofs.YtlfemcbfclallaaGreatDoor
namespace Go.Proofs.YtlfemcbfclallaaGreatDoor
open Go.RowKit Go.Maps
set_option linter.unusedVariables false
set_option linter.unusedSimpArgs false
theorem apE0 (w : World) (b : Addr) (c : Nat) (a : Option Addr) (c' : Nat) : (apE #[.slice (some b) 0 c, .slice a 0 c']).run Tryz.prog w = .ok (.slice (some b) 0 c) w := by
  obtain ⟨i0, hi, hz0, hz1, hz2⟩ := info_parts infoE
  cases a <;> simp [apE, Builtin.append_, run_underlying Tryz.underlying30, sizeOf, typeInfo, hi, Builtin.lenOf, Builtin.firstCells, loadCells, loadCellsFrom, storeCells, go_sem]
set_option maxRecDepth 100000 in
set_option maxHeartbeats 400000 in
theorem rightO_is (w : World) (a : Option Addr) (c : Nat) : Calls Tryz.prog 334 #[.slice a 0 c] w fun e w' => e = .returned (.int .i64 0) ∧ w = w' := by
  go_enter Tryz.func334, Tryz.ntmps334
  go_wp2_with fail
  refine wp_loop_rounds 1 ?_
  rw [rounds_succ]
  go_wp2_with fail
  go_ret
  exact ⟨rfl, rfl⟩
section
attribute [local go_sem ↓] mkB_eq apE_eq
set_option maxRecDepth 100000 in
set_option maxHeartbeats 400000 in
theorem cloneO_is (w : World) (g c : Nat) : Calls Tryz.prog 335 #[.slice (some ⟨g, 0, none⟩) 0 c] w fun e w' => ∃ g' c', e = .returned (.slice (some ⟨g', 0, none⟩) 0 c') ∧ Below w.heap.size w w' := by
  have q22 : ∀ (w : World) (a : Option Addr) (n c n' c' : Nat), (binOp .eql 30 (.slice a n c) (.slice none n' c')).run Tryz.prog w = .ok (.bool a.isNone) w := fun w a n c n' c' => Lib.run_eql_slice_nil w _ _ a n c n' c' Tryz.underlying30
  have hap := apE0
  have HB := Lib.hid (Go.Joins.below_alloc1 w (.cells #[] 390))
  go_enter Tryz.func335, Tryz.ntmps335
  go_wp2_with fail
  go_ret
  exact ⟨_, _, rfl, HB.out⟩
set_option maxRecDepth 100000 in
set_option maxHeartbeats 1000000 in
theorem dlayO_is (w : World) (g c : Nat) : Calls Tryz.prog 301 #[.slice (some ⟨g, 0, none⟩) 0 c] w fun e w' => ∃ g, e = .returned (.tuple #[.slice (some ⟨g, 0, none⟩) 0 0, .int .i64 0]) ∧ w.heap.size ≤ g ∧ g < w'.heap.size ∧ Below w.heap.size w w' := by
  have HR := Lib.hid (fun w a c => rightO_is w a c)
  have HC := Lib.hid (fun w g c => cloneO_is w g c)
  have HS := Lib.hid (fun w f a c => sortE_is w f a 0 c (.inl rfl))
  have hm := mkB0
  have HB := Lib.hid (Go.Joins.below_alloc1 w (.cells #[.slice (some ⟨g, 0, none⟩) 0 c] 30))
  have hr := row_new w 30 #[.slice (some ⟨g, 0, none⟩) 0 c]
  have HR0 := Lib.hid hr
  have c0 : (w.alloc (.cells #[.slice (some ⟨g, 0, none⟩) 0 c] 30)).cell? ⟨w.heap.size, 0, none⟩ = some (.slice (some ⟨g, 0, none⟩) 0 c) := by rw [hr.cell]; rfl
  clear hr
  go_enter Tryz.func301, Tryz.ntmps301
  go_upto_region 1 with fail
  generalize w.alloc (.cells #[.slice (some ⟨g, 0, none⟩) 0 c] 30) = w1 at *
  obtain ⟨b, hb⟩ : ∃ b, b = w.heap.size := ⟨_, rfl⟩
  rw [← hb] at HR0 c0 ⊢
  have HBB := Lib.hid hb
  clear hb
  have hlt := HR0.out.lt
  go_upto_region 4 with (go_at_call 334; (with_reducible refine (HR.out _ _ _).mono ?_); rintro e1 w1 ⟨rfl, rfl⟩)
  have z0 := HR0.out.fz 0
  go_upto_region 5 with (go_at_call 335; (with_reducible refine (HC.out _ _ _).mono ?_); rintro e2 w2 ⟨g2, c2, rfl, hb2⟩; have HR2 := Lib.hid (HR0.out.keep hb2); have HB2 := Lib.hid (HB.out.trans (hb2.mono HB.out.size)); have cc := (HR0.out.keep hb2).cell 0; have zz := (HR0.out.keep hb2).fz 0; clear hb2)
  have HR3 : Hid (Row (w2.setCell ⟨b, 0, none⟩ (.slice (some ⟨g2, 0, none⟩) 0 c2)) b 30 #[.slice (some ⟨g2, 0, none⟩) 0 c2]) := Lib.hid (by rw [HR2.out.setCell]; exact HR2.out.setRow _)
  have HB3 : Hid (Below w.heap.size w (w2.setCell ⟨b, 0, none⟩ (.slice (some ⟨g2, 0, none⟩) 0 c2))) := Lib.hid (HB2.out.trans ((Upd.set (S := fun j => j = b) w2 (.slice (some ⟨g2, 0, none⟩) 0 c2) rfl).toBelow HB2.out.size (fun j hj e => by have e : j = b := e; have := HBB.out; omega)))
  clear cc zz c0 z0 HR0 HR2 HB2 HB hlt HC HR
  generalize w2.setCell ⟨b, 0, none⟩ (.slice (some ⟨g2, 0, none⟩) 0 c2) = w3 at *
  have c3 := HR3.out.cell 0
  have hlt := HR3.out.lt
  have HLT := Lib.hid HR3.out.lt
  have HSZ := Lib.hid HB3.out.size
  rw [show (#[Value.slice (some ⟨g2, 0, none⟩) 0 c2] : Array Value)[0]? = some (.slice (some ⟨g2, 0, none⟩) 0 c2) from rfl] at c3
  go_wp2_with (first | (go_at_call 336; (with_reducible refine (HS.out _ _ _ _).mono ?_); rintro e1 w1 ⟨rfl, rfl⟩) | (go_at_call 338; refine (layE_is (n := 0) (c := c2) (a := some ⟨g2, 0, none⟩) (by repeat (first | exact c3 | refine Go.Lib.cell?_alloc_some _ ?_)) (k := 0) (Nat.le_refl _)).mono ?_; rintro e1 w1 ⟨rfl, rfl⟩))
  go_ret2
  have z1 := HSZ.out
  refine ⟨_, rfl, HSZ.out, by simp <;> omega, ?_⟩
  exact (((((HB3.out.alloc HB3.out.size _).alloc (by simp <;> omega) _).alloc (by simp <;> omega) _).alloc (by simp <;> omega) _))
theorem outf_is {w : World} {p : Nat} (h : w.cell? ⟨p, 0, none⟩ = some (.string ⟨#[102]⟩)) : Calls Tryz.prog 331 #[.agg #[.string ⟨#[102]⟩, .int .i64 2], .pointer (some ⟨p, 0, none⟩)] w fun e w' => e = .returned (.bool true) ∧ Below w.heap.size w w' := by
  have hlt := World.block_lt_of_cell? w _ h
  have HB := Lib.hid (Go.Joins.below_alloc1 w (.cells #[.string ⟨#[102]⟩, .int .i64 2] 390))
  go_enter Tryz.func331, Tryz.ntmps331
  go_wp2_with fail
  go_ret
  exact ⟨rfl, HB.out⟩
theorem didx1_is {w : World} {g cap p : Nat} (he : E1 w g 0 cap) (h : w.cell? ⟨p, 0, none⟩ = some (.string ⟨#[102]⟩)) : Calls Tryz.prog 330 #[.slice (some ⟨g, 0, none⟩) 1 cap, .func (Fn.func 331) #[] #[.pointer (some ⟨p, 0, none⟩)]] w fun e w' => e = .returned (.int .i64 0) ∧ Below w.heap.size w w' := by
  have c0 := he.c0
  have c1 := he.c1
  have hcm : (cap : Int) ≤ 9223372036854775807 := by have := he.l2; unfold maxLen at this; omega
  have HO := Lib.hid (outf_is h)
  clear he h
  go_enter Tryz.func330, Tryz.ntmps330
  go_wp2_with fail
  refine wp_loop_rounds 2 ?_
  rw [rounds_succ]
  go_wp2_with (go_at_call 331; refine HO.out.mono ?_; rintro e1 w1 ⟨rfl, hb1⟩; have HB1 := Lib.hid hb1; clear hb1)
  go_ret
  exact ⟨rfl, HB1.out⟩
def clE (v : Value) : Sem Value := Builtin.clear_ #[30] 0 #[v]
theorem clE_eq (v : Value) : Builtin.clear_ #[30] 0 #[v] = clE v := rfl
theorem clE_run {w : World} {g cap c : Nat} {C : Array Value} (hr : Row w g 390 C) (hs : C.size = cap * 2) (h1 : 1 ≤ cap) : (clE (.slice (some ⟨g, 0, none⟩) 1 c)).run Tryz.prog w = .ok (.tuple #[]) (w.setCells g 0 [.string ⟨#[]⟩, .int .i64 0]) := by
  have hz : (zeroValue 390).run Tryz.prog w = .ok (.agg #[.string ⟨#[]⟩, .int .i64 0]) w := by kernel_rfl
  have hst := run_storeCells_cells (P := Tryz.prog) g 0 [.string ⟨#[]⟩, .int .i64 0] 0 w (fun j hj => by
    rw [hr.cell]
    have : j < 2 := by simpa using hj
    rw [Array.getElem?_eq_getElem (by omega)]; rfl) (fun j hj => hr.fz _) (by simp [Value.oneCell'])
  have hzc : (Builtin.zeroCells (Value.agg #[.string ⟨#[]⟩, .int .i64 0]).cells 1).toList = [.string ⟨#[]⟩, .int .i64 0] := by kernel_rfl
  simp only [Nat.add_zero] at hst
  simp [clE, Builtin.clear_, run_underlying Tryz.underlying30, hz, hzc, hst]
end
section
attribute [local go_sem ↓] apE_eq clE_eq
set_option maxRecDepth 100000 in
set_option maxHeartbeats 400000 in
theorem delE_is {w : World} {g cap : Nat} (he : E1 w g 0 cap) : Calls Tryz.prog 332 #[.slice (some ⟨g, 0, none⟩) 1 cap, .int .i64 0, .int .i64 1] w fun e w' => e = .returned (.slice (some ⟨g, 0, none⟩) 0 cap) ∧ Upd (fun j => j = g) w w' := by
  obtain ⟨C, hr, hs⟩ := he.rw rfl
  have h1 := he.l1
  have hcm : (cap : Int) ≤ 9223372036854775807 := by have := he.l2; unfold maxLen at this; omega
  have i1 : (1 : Int) ≤ cap := by omega
  have hap := apE0
  have HR := Lib.hid (And.intro hr (And.intro hs h1))
  have hcl := fun (w' : World) (hx : Below w.heap.size w w') c => clE_run (c := c) (hr.keep hx) hs h1
  have hcl0 := hcl w (Below.refl _ _)
  have hcl1 := hcl w.drew (Below.refl _ _).drew
  have HU := Lib.hid (Upd.setRow (S := fun j => j = g) w (putA C 0 [.string ⟨#[]⟩, .int .i64 0]) rfl)
  have hse := hr.setCells [.string ⟨#[]⟩, .int .i64 0] (o := 0) (by rw [hs]; show 0 + 2 ≤ cap * 2; omega)
  have hse1 := (hr.keep (Below.refl _ _).drew).setCells [.string ⟨#[]⟩, .int .i64 0] (o := 0) (by rw [hs]; show 0 + 2 ≤ cap * 2; omega)
  clear he hcl hr hs
  by_cases hc : cap = 1
  · subst hc
    go_enter Tryz.func332, Tryz.ntmps332
    go_upto_region 5 with fail
    go_region
    go_wp2_with fail
    go_ret
    exact ⟨rfl, (Upd.drew w).trans (Upd.setRow w.drew _ rfl)⟩
  · have hc2 : ¬ (cap : Int) = 1 := by omega
    go_enter Tryz.func332, Tryz.ntmps332
    go_upto_region 5 with fail
    go_region
    go_wp2_with fail
    go_ret
    exact ⟨rfl, (Upd.drew w).trans (Upd.setRow w.drew _ rfl)⟩
end
section
set_option maxRecDepth 100000 in
set_option maxHeartbeats 400000 in
theorem out1_is {w : World} {b o c : Nat} (hv : At (Value.int .u8) 0 w (.slice (some ⟨b, o, none⟩) 16 c) entL) : Calls Tryz.prog 292 #[.slice (some ⟨b, o, none⟩) 16 c, .string ⟨#[102]⟩] w fun e w' => ∃ g, e = .returned (.tuple #[.slice (some ⟨g, 0, none⟩) 0 0, .int .i64 0]) ∧ w.heap.size ≤ g ∧ g < w'.heap.size ∧ Below w.heap.size w w' := by
  have hal := Go.Joins.below_alloc1 w (.cells #[.string ⟨#[102]⟩] 9)
  have hrw := row_new w 9 #[.string ⟨#[102]⟩]
  have HL := Lib.hid (list1_is (hv.keep hal))
  have HB := Lib.hid hal
  have HR := Lib.hid hrw
  have HY := Lib.hid (fun w g c => dlayO_is w g c)
  clear hv hal hrw
  go_enter Tryz.func292, Tryz.ntmps292
  go_upto_region 1 with fail
  generalize w.alloc (.cells #[.string ⟨#[102]⟩] 9) = w1 at *
  go_wp2_with (first | (go_at_call 246; (with_reducible refine HL.out.mono ?_); rintro e2 w2 ⟨g, cap, rfl, hg, he, hb⟩; have HB2 := Lib.hid (HB.out.trans (hb.mono HB.out.size)); have HI := Lib.hid (didx1_is he ((HR.out.keep hb).cell 0)); have HE := Lib.hid he; have HG := Lib.hid (Nat.le_trans HB.out.size hg); clear hg he hb) | (go_at_call 330; (refine HI.out.mono ?_); rintro e3 w3 ⟨rfl, hb⟩; have HB3 := Lib.hid (HB2.out.trans (hb.mono HB2.out.size)); have HD := Lib.hid (delE_is (HE.out.keep hb)); clear hb) | (go_at_call 332; (refine HD.out.mono ?_); rintro e4 w4 ⟨rfl, hu⟩; have HB4 := Lib.hid (HB3.out.trans (hu.toBelow HB3.out.size (fun j hj e => by have e : j = g := e; have := HG.out; omega))); clear hu) | (go_at_call 301; (with_reducible refine (HY.out _ _ _).mono ?_); rintro e5 w5 ⟨gb, rfl, h1, h2, hb⟩; have HX := Lib.hid (And.intro (Nat.le_trans HB4.out.size h1) (And.intro h2 (HB4.out.trans (hb.mono HB4.out.size)))); clear h1 h2 hb))
  go_ret2
  exact ⟨gb, rfl, HX.out⟩
end
end Go.Proofs.YtlfemcbfclallaaGreatDoor
namespace Go.Proofs.YtlfemcbfclallaaGreatDoor
open Go.RowKit Go.Maps
set_option linter.unusedVariables false
set_option linter.unusedSimpArgs false
theorem own_cut {w : World} {B g n c : Nat} {xs : List Value} (h : w.ownsRow B 3 1 (.slice (some ⟨g, 0, none⟩) n c) n xs) : w.ownsRow B 3 1 (.slice (some ⟨g, 0, none⟩) 0 c) 0 [] := by
  rcases h.2 with ⟨e, _⟩ | ⟨g', cap, cur, e, hB, hg, h1, h2, h3, h4⟩
  · cases e
  · injection e with e1 e2 e3
    subst e3
    injection e1 with e1
    injection e1 with e1 _ _
    subst e1
    exact ⟨rfl, .inr ⟨g, c, cur, rfl, hB, hg, Nat.zero_le _, h2, h3, by simp⟩⟩
section
variable {w0 w w' : World} {c : FC} {x : FM} {t : Nat} {y : TM}
theorem TX.gone {wA : World} (hA : TX w0 wA c x t y) (h : TX w0 w c x t y) (hs : wA.heap.size ≤ w.heap.size) {gv : Value} {gl : List Int} (ho : w.ownsRow wA.heap.size 3 1 gv gl.length (gl.map i64V)) :
    TX w0 (w.setCell ⟨t, 197, none⟩ gv) c x t { y with gv := gv, gl := gl } := by
  have hu : Upd (fun j => j = t) w (w.setCell ⟨t, 197, none⟩ gv) := Upd.set w _ rfl
  obtain ⟨b1, b2, b3⟩ := h.tb hu (fun j e => .inl e)
  obtain ⟨m1, m2, m3, m4, m5, m6⟩ := h.n1
  obtain ⟨C, hC⟩ := h.nb
  have hr : Row (w.setCell ⟨t, 197, none⟩ gv) t 245 (txR c { y with gv := gv, gl := gl }) := by
    have e : txR c { y with gv := gv, gl := gl } = (txR c y).setIfInBounds 197 gv := by
      apply Array.ext_getElem?
      intro j
      rw [Array.getElem?_setIfInBounds]
      rcases Nat.lt_or_ge j 193 with hj | hj
      · rw [if_neg (by omega)]
        rcases j with _ | j
        · rw [txR_lo, txR_lo]
        · rw [Nat.add_comm, txR_G _ _ (by omega), txR_G _ _ (by omega)]
      · obtain ⟨k, rfl⟩ : ∃ k, j = 193 + k := ⟨j - 193, by omega⟩
        rw [txR_hi, txR_hi, txR_size]
        rcases k with _ | _ | _ | _ | _ | _ | _ | k
        all_goals simp
        all_goals omega
    rw [e, h.row.setCell]
    exact h.row.setRow _
  have g0 : ∀ j, gv.ownBlock = some j → wA.heap.size ≤ j ∧ j < w.heap.size := fun j e => ho.lt j e
  have gt : ∀ j, gv.ownBlock = some j → j ≠ t ∧ j ≠ y.N ∧ j ≠ y.db ∧ j ≠ y.pb := fun j e => by
    have h1 := (g0 j e).1
    have a1 := (hA.mlt (.inl rfl)).2
    have a2 := (hA.mlt (.inr (.inl rfl))).2
    have a3 := (hA.mlt (.inr (.inr (.inl rfl)))).2
    have a4 := (hA.mlt (.inr (.inr (.inr (.inl rfl))))).2
    exact ⟨by omega, by omega, by omega, by omega⟩
  exact ⟨h.fs, b1, hr, h.lone, h.fr, ⟨C, hC.upd hu (fun e => m1 e.symm)⟩, h.cp, fun i hi => ⟨(b2 i hi).a, fun j e q => by
    rcases q with q | q | q
    · exact (b2 i hi).n j e (.inl q)
    · rcases q with q | q | q | q | q
      · exact (b2 i hi).n j e (.inr (.inl (.inl q)))
      · exact (b2 i hi).n j e (.inr (.inl (.inr (.inl q))))
      · exact (b2 i hi).n j e (.inr (.inl (.inr (.inr (.inl q)))))
      · exact (b2 i hi).n j e (.inr (.inl (.inr (.inr (.inr (.inl q))))))
      · have h1 := (g0 j q).1
        have h2 := (hA.ps i hi).lt j e
        omega
    · exact (b2 i hi).n j e (.inr (.inr q)), (b2 i hi).lt⟩, h.db.upd hu (fun e => m2 e.symm), h.pb.upd hu (fun e => m3 e.symm), fun p s e => ⟨⟨(b3 p s e).1.a, fun j q k => by
    rcases k with k | k | k | k | k | k
    · exact (b3 p s e).1.n j q (.inl k)
    · exact (b3 p s e).1.n j q (.inr (.inl k))
    · exact (b3 p s e).1.n j q (.inr (.inr (.inl k)))
    · exact (b3 p s e).1.n j q (.inr (.inr (.inr (.inl k))))
    · exact (b3 p s e).1.n j q (.inr (.inr (.inr (.inr (.inl k)))))
    · have h1 := (g0 j k).1
      have h2 := hA.ltP e
      obtain ⟨b, o, n, k⟩ := s
      simp only [encS, Value.ownBlock, Option.some.injEq] at q
      simp only at h2
      omega⟩, (b3 p s e).2⟩, owns_base (hu.owns ho (fun j e q => (gt j e).1 q)) hA.bl.size, h.b0, h.n1, gt⟩
attribute [local go_sem ↓] ld_ino st_ino2 mkB_eq copyB_eq apI8_eq
set_option maxRecDepth 100000 in
set_option maxHeartbeats 2000000 in
theorem fillO_is (h : TX w0 w c x t y) {i q : Nat} (hi : i < 32) (hps : (y.nd i).ps = [(q : Int)]) (hgv : y.gv = .slice none 0 0) {n : Int} (hn : n = i + 1) {az : Option Addr} {cz : Nat} (mz : cz ≤ maxLen) (hnb : y.nb < 1000) :
    Calls Tryz.prog 209 #[.pointer (some ⟨t, 0, none⟩), .int .i64 n, .slice az 0 cz] w fun e w' => e = .returned (.tuple #[]) ∧ (∃ v' gv, TX w0 w' c x t { y with nd := ups1 y.nd i { (y.nd i) with sz := 0, pv := v', ps := [] }, dy := fun j => if j = (i : Int) + 1 then some () else y.dy j, nb := y.nb + 1, gv := gv, gl := [(q : Int)] }) ∧ Upd (tMut t y) w w' := by
  have HH := Lib.hid h
  have HX := Lib.hid (And.intro hi (And.intro hps hnb))
  have HGV := Lib.hid hgv
  have HN := Lib.hid (node_is h hi hn)
  have HNN := Lib.hid hn
  have HBL := Lib.hid (fun w => blocks0_is w)
  have mcz : (cz : Int) ≤ 9223372036854775807 := by unfold maxLen at mz; omega
  obtain ⟨N, hNd⟩ : ∃ N, N = y.nd i := ⟨_, rfl⟩
  rw [← hNd] at HN
  have HD := Lib.hid hNd
  have hsn := fun w => st0_new w (T := 120) (c := #[.int .i64 0, .int .i64 0, .int .i64 0, .int .i64 0, .int .i64 0, .int .i64 0, .int .i64 0, .slice none 0 0]) (cs := ndA N) rfl (by rw [ndA_size]; kernel_rfl) (ndA_one N (by rw [hNd]; exact ip_one (h.ps i hi)))
  clear h hi hps hnb hNd hn hgv
  go_enter Tryz.func209, Tryz.ntmps209
  go_upto_region 1 with (go_at_call 118; refine HN.out.mono ?_; rintro e1 w1 ⟨rfl, hb1⟩; have HB1 := Lib.hid hb1; clear hb1)
  have hr2 := row_new w1 120 (ndA N)
  have hb2 : Below w.heap.size w (w1.alloc (.cells (ndA N) 120)) := HB1.out.trans ((Go.Joins.below_alloc1 w1 _).mono HB1.out.size)
  have HNK : Hid (w.heap.size ≤ w1.heap.size) := Lib.hid HB1.out.size
  clear hsn HN HB1
  generalize w1.alloc (.cells (ndA N) 120) = w2 at *
  generalize w1.heap.size = nbk at *
  have hA2 : At (Value.int .i64) 0 w2 N.pv [(q : Int)] := by
    have := (HH.out.ps i HX.out.1).a.keep hb2
    rw [HX.out.2.1, ← HD.out] at this
    exact this
  have c7 : w2.cell? ⟨nbk, 7, none⟩ = some N.pv := by rw [hr2.cell]; rfl
  have HB2 := Lib.hid hb2
  have HR2 := Lib.hid hr2
  have hbl := HBL.out w2
  have HCL := Lib.hid (cloneI_is (by simp) hA2)
  clear hb2 hr2
  obtain ⟨ap, cp, hpv, -, mcp, -⟩ := hA2
  change N.pv = .slice ap 1 cp at hpv
  rw [hpv] at c7
  have HCL : Hid (Calls Tryz.prog 129 #[.slice ap 1 cp] w2 (CloneI [(q : Int)] w2)) := Lib.hid (by have := HCL.out; rw [hpv] at this; exact this)
  have mcp' : (cp : Int) ≤ 9223372036854775807 := by unfold maxLen at mcp; omega
  go_upto_region 3 with (first | (go_at_call 130; (with_reducible refine hbl.mono ?_); rintro e2 w3 ⟨rfl, rfl⟩; clear hbl) | (go_at_call 129; (with_reducible refine HCL.out.mono ?_); rintro e3 w3 ⟨v3, rfl, ho3, hb3⟩; obtain ⟨p3, c3, rfl⟩ := own_form ho3))
  have HB3 := Lib.hid (HB2.out.trans (hb3.mono HB2.out.size))
  have HR3 := Lib.hid (HR2.out.keep hb3)
  have HZ3 : Hid (w2.heap.size ≤ w3.heap.size ∧ w.heap.size ≤ w2.heap.size ∧ nbk < w2.heap.size) := Lib.hid ⟨hb3.size, HB2.out.size, HR2.out.lt⟩
  clear HB2 HR2 c7 HCL hb3
  obtain ⟨g3, rfl, k30, k31, k32, k33⟩ := own_block ho3 (by simp)
  have c8 : w3.cell? ⟨g3, 0, none⟩ = some (.int .i64 q) := by
    obtain ⟨a', cap', e', -, -, h3⟩ := at_of_owned (f := Value.int .i64) (d := 0) (xs := [(q : Int)]) ho3
    rcases h3 with h3 | ⟨b', o', rfl, -, hc⟩
    · simp at h3
    · injection e' with e' _ _
      injection e' with e'
      injection e' with e1 e2 _
      subst e1 e2
      exact hc 0 (by simp)
  have mc3 : (c3 : Int) ≤ 9223372036854775807 := by unfold maxLen at k33; omega
  have i31 : (1 : Int) ≤ c3 := by have : 1 ≤ c3 := k32; omega
  have y0 : IntKind.i64.wrap 0 = 0 := rfl
  have HT3 := Lib.hid (HH.out.keep HB3.out)
  have d6 := HT3.out.c6
  rw [HGV.out] at d6
  have zz := HT3.out.row.fz 197
  have hlt := HT3.out.row.lt
  obtain ⟨v4, w4, hap, ho4, -, hb4⟩ := apI_push (w := w3.drew) (B := w3.heap.size) (v := .slice none 0 0) (l := []) (World.ownsRow_nil _ _ _ _) (Nat.le_refl _) (q : Int) (by decide)
  obtain ⟨p4, c4, rfl⟩ := own_form ho4
  obtain ⟨g4, rfl, -, -, -, -⟩ := own_block ho4 (by simp)
  have hap : (apI8 #[.slice none 0 0, .slice (some ⟨w3.heap.size, 0, none⟩) 1 1]).run Tryz.prog ((w3.alloc (.cells #[.int .i64 q] 3)).drew) = .ok (.slice (some ⟨g4, 0, none⟩) 1 c4) w4 := hap
  have HB4 := Lib.hid ((Below.refl w3.heap.size w3).drew.trans hb4)
  have d4 : w4.cell? ⟨t, 197, none⟩ = some (.slice none 0 0) := (hb4.cell (p := ⟨t, 197, none⟩) hlt).trans d6
  have z4' : w4.frozen? ⟨t, 197, none⟩ = false := (hb4.frozen (p := ⟨t, 197, none⟩) hlt).trans zz
  have HO4 := Lib.hid ho4
  clear ho4 hb4
  go_wp2_with fail
  refine wp_loop_rounds 2 ?_
  rw [rounds_succ]
  go_upto_region 4 with fail
  go_region
  have HT4 : Hid (TX w0 (w4.setCell ⟨t, 197, none⟩ (.slice (some ⟨g4, 0, none⟩) 1 c4)) c x t { y with gv := .slice (some ⟨g4, 0, none⟩) 1 c4, gl := [(q : Int)] }) := Lib.hid (HT3.out.gone (HT3.out.keep HB4.out) HB4.out.size (gl := [(q : Int)]) HO4.out)
  have HU4 : Hid (Upd (tMut t y) w (w4.setCell ⟨t, 197, none⟩ (.slice (some ⟨g4, 0, none⟩) 1 c4))) := Lib.hid (((Upd.below HB3.out).trans (Upd.below HB4.out)).trans (Upd.set w4 _ (.inl rfl)))
  have HNT : Hid (nbk ≠ t) := Lib.hid (fun e => by have h1 := HNK.out; have h2 := (HH.out.mlt (.inl rfl)).2; omega)
  have HR4 : Hid (Row (w4.setCell ⟨t, 197, none⟩ (.slice (some ⟨g4, 0, none⟩) 1 c4)) nbk 120 (ndA N)) := Lib.hid ((HR3.out.keep HB4.out).upd (Upd.set (S := fun j => j = t) w4 _ rfl) HNT.out)
  have HO3 := Lib.hid <| own_cut <| (Upd.set (S := fun j => j = t) (b := t) (i := 197) w4 (.slice (some ⟨g4, 0, none⟩) 1 c4) rfl).owns (owns_keep ho3 HB4.out) (fun j e q => by have h1 := (ho3.lt j e).1; have h2 := (HH.out.mlt (.inl rfl)).2; have h3 := HZ3.out.2.1; have q : j = t := q; omega)
  have HZ6 : Hid (w3.heap.size ≤ (w4.setCell ⟨t, 197, none⟩ (.slice (some ⟨g4, 0, none⟩) 1 c4)).heap.size) := Lib.hid (Nat.le_trans HB4.out.size (Upd.set (S := fun j => j = t) (b := t) (i := 197) w4 (.slice (some ⟨g4, 0, none⟩) 1 c4) rfl).size)
  clear c8 d6 zz hlt hap d4 z4' HT3 HR3 ho3 HB4 HB3
  generalize w4.setCell ⟨t, 197, none⟩ (.slice (some ⟨g4, 0, none⟩) 1 c4) = w6 at *
  have z7 := HR4.out.fz 7
  have z4 := HR4.out.fz 4
  have y7 := HR4.out.cell 7
  have y4 := HR4.out.cell 4
  go_wp2_with fail
  rw [rounds_succ]
  go_wp2_with fail
  refine wp_loop_rounds 1 ?_
  rw [rounds_succ]
  go_upto_region 9 with fail
  obtain ⟨w5, hw5⟩ : ∃ w5, w5 = (w6.setCell ⟨nbk, 7, none⟩ (.slice (some ⟨g3, 0, none⟩) 0 c3)).setCell ⟨nbk, 4, none⟩ (.int .i64 0) := ⟨_, rfl⟩
  rw [← hw5]
  have hu5 : Upd (fun j => j = nbk) w6 w5 := by rw [hw5]; exact (Upd.set w6 (b := nbk) (i := 7) _ (S := fun j => j = nbk) rfl).trans (Upd.set _ (b := nbk) (i := 4) _ rfl)
  have hr5 : Row w5 nbk 120 (ndA { N with sz := 0, pv := .slice (some ⟨g3, 0, none⟩) 0 c3, ps := [] }) := by
    have q1 := HR4.out.setRow ((ndA N).setIfInBounds 7 (.slice (some ⟨g3, 0, none⟩) 0 c3))
    rw [hw5, HR4.out.setCell, q1.setCell]
    exact q1.setRow _
  have hG4 : w3.heap.size ≤ g4 := (HO4.out.lt g4 rfl).1
  have hT5 : TX w0 w5 c x t { y with gv := .slice (some ⟨g4, 0, none⟩) 1 c4, gl := [(q : Int)] } := HT4.out.far hu5 (fun k ek => by
    subst ek
    have hj := HNK.out
    have hz := HZ3.out
    refine ⟨Nat.le_trans HH.out.bl.size hj, fun e => ?_, fun i hi e => by have := (HH.out.ps i hi).lt k e; omega, fun p s e => by have := HH.out.ltP e; omega⟩
    rcases e with e | e | e | e | e
    · have := (HH.out.mlt (.inl e)).2; omega
    · have := (HH.out.mlt (.inr (.inl e))).2; omega
    · have := (HH.out.mlt (.inr (.inr (.inl e)))).2; omega
    · have := (HH.out.mlt (.inr (.inr (.inr (.inl e))))).2; omega
    · have e : g4 = k := by injection e
      omega)
  have l5 : (ldR 120 (.pointer (some ⟨nbk, 0, none⟩))).run Tryz.prog w5 = .ok (.agg (ndA { N with sz := 0, pv := .slice (some ⟨g3, 0, none⟩) 0 c3, ps := [] })) w5 := hr5.ld0 Tryz.underlying120 rfl (by rw [ndA_size]; kernel_rfl)
  have ho5 : w5.ownsRow w2.heap.size 3 1 (.slice (some ⟨g3, 0, none⟩) 0 c3) 0 (([] : List Int).map i64V) := hu5.owns HO3.out (fun j e q => by have := (HO3.out.lt j e).1; have := HZ3.out.2.2; omega)
  have hg3 : g3 < w3.heap.size := k31
  have HIP : Ip (fun j => fMut c x j ∨ tMut t { y with gv := .slice (some ⟨g4, 0, none⟩) 1 c4, gl := [(q : Int)] } j ∨ (¬ x.bs j ∧ j < w0.heap.size)) w5 { N with sz := 0, pv := .slice (some ⟨g3, 0, none⟩) 0 c3, ps := [] } := ⟨at_of_owned (f := Value.int .i64) (d := 0) (xs := []) ho5, fun j e q => by
    have h2 := (ho5.lt j e).1
    have e3 : g3 = j := by injection e
    have h7 := HZ3.out.2.1
    rcases q with q | q | q
    · have := HH.out.fs.lt _ (HH.out.fs.bm _ q); have := HH.out.bl.size; omega
    · rcases q with q | q | q | q | q
      · have := (HH.out.mlt (.inl q)).2; omega
      · have := (HH.out.mlt (.inr (.inl q))).2; omega
      · have := (HH.out.mlt (.inr (.inr (.inl q)))).2; omega
      · have := (HH.out.mlt (.inr (.inr (.inr (.inl q))))).2; omega
      · have q : g4 = j := by injection q
        omega
    · have := HH.out.bl.size; omega, fun j e => (ho5.lt j e).2⟩
  have HSE := Lib.hid (set_is hT5 HX.out.1 HNN.out HIP HX.out.2.2)
  have HU5 := Lib.hid (HU4.out.trans' hu5 (fun k hk e => by have := HNK.out; omega))
  have HG4 := Lib.hid hG4
  clear hw5 hu5 hr5 hT5 ho5 HIP z7 z4 y7 y4 hG4 hg3
  go_wp2_with fail
  refine wp_loop_rounds 1 ?_
  rw [rounds_succ]
  go_wp2_with (go_at_call 119; (with_reducible refine HSE.out.mono ?_); rintro e9 w9 ⟨rfl, hT9, hu9⟩)
  refine bodyPost_end (results_none rfl _ _ _) rfl ⟨rfl, ⟨.slice (some ⟨g3, 0, none⟩) 0 c3, .slice (some ⟨g4, 0, none⟩) 1 c4, ?_⟩, HU5.out.trans' hu9 (fun k hk e => ?_)⟩
  · rw [← HD.out, ← HNN.out]
    exact hT9
  · rcases e with e | e | e | e | e
    · exact .inl e
    · exact .inr (.inl e)
    · exact .inr (.inr (.inl e))
    · exact .inr (.inr (.inr (.inl e)))
    · have e : g4 = k := by injection e
      have h1 := HG4.out
      have h2 := HZ3.out
      omega
end
end Go.Proofs.YtlfemcbfclallaaGreatDoor
