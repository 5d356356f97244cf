/- The kernel with its file system as one state; the walks of kernel.may and kernel.last. A kernel that has begun, as one state. Printed by gen_kerx2.py. Calls and their rows; a task that is awake and has no signal. The first task of a kernel that has begun: who it is. The walks of path.Split at "/f" and at "/". What fs.Write puts into a file's sectors; a block of 64 bytes of one's own, byte by byte; the walk of FS.file. -/
import Derived.Test.YtegpngjmplcfpaaGreatDoorFsA
import Derived.Test.YtegpngjmplcfpaaGreatDoorMnt2
import Derived.Test.YtegpngjmplcfpaaGreatDoorFsZ
import Derived.Test.YtegpngjmplcfpaaGreatDoorPathD
import Derived.Test.YtegpngjmplcfpaaGreatDoorFsX
namespace Go.Proofs.YtegpngjmplcfpaaGreatDoor
open Go.RowKit Go.Maps
set_option linter.unusedVariables false
set_option linter.unusedSimpArgs false
/-- the kernel with its file system: whose blocks bear no tag -/
structure KF (w : World) (k : KC) (s : KSt) (fc : FC) (x : FM) : Prop where
  kt : KT w k s
  c2 : s.c 2 = .pointer (some ⟨fc.F, 0, none⟩)
  fs : FSt w fc x
  sep : ∀ j, x.bs j → s.tag j = 0
theorem KF.keep {w w' : World} {k : KC} {s : KSt} {fc : FC} {x : FM} (h : KF w k s fc x) (hb : Below w.heap.size w w') : KF w' k s fc x := ⟨h.kt.keep hb, h.c2, h.fs.keep hb, h.sep⟩
/-- a task's cred and directory -/
structure Who (w : World) (s : KSt) (p : Nat) (U K : Int) (a : Option Addr) (cap gc cc : Nat) : Prop where
  p16 : p ≤ 16
  cr : ∀ i, i < 6 → (crA U K a cap)[i]? = some (s.c (8 + p * 38 + 11 + i))
  wd : s.c (8 + p * 38 + 17) = .slice (some ⟨gc, 0, none⟩) 1 cc
  mt : s.c (8 + p * 38 + 18) = .slice none 0 0
  g : w.cell? ⟨gc, 0, none⟩ = some (.int .i64 1)
  hc : cap ≤ maxLen
  c1 : 1 ≤ cc
  c2 : cc ≤ maxLen
  hU : 0 ≤ U ∧ U ≤ 99
  hK : 0 ≤ K ∧ K ≤ 127
theorem Who.keep {w w' : World} {s : KSt} {p : Nat} {U K : Int} {a : Option Addr} {cap gc cc : Nat} (h : Who w s p U K a cap gc cc) (hb : Below w.heap.size w w') : Who w' s p U K a cap gc cc := ⟨h.p16, h.cr, h.wd, h.mt, (hb.cell (p := ⟨gc, 0, none⟩) (World.block_lt_of_cell? w _ h.g)).trans h.g, h.hc, h.c1, h.c2, h.hU, h.hK⟩
theorem cred_cells {c : Nat → Value} {o : Nat} (ho : o + 6 ≤ 655) {A : Array Value} (hA : A.size = 6) (h : ∀ i, i < 6 → A[i]? = some (c (o + i))) : (kerA c).extract o (o + 6) = A := by
  apply Array.ext_getElem?
  intro i
  rw [Array.getElem?_extract]
  by_cases hi : i < 6
  · rw [if_pos (by rw [kerA_size]; omega), h i hi]
    simp only [kerA]
    rw [Array.getElem?_ofFn, dif_pos (by omega)]
  · rw [if_neg (by rw [kerA_size]; omega), Array.getElem?_eq_none (by omega)]
section
variable {w : World} {k : KC} {s : KSt} {fc : FC} {x : FM} {p : Nat} {U K : Int} {a : Option Addr} {cap gc cc : Nat}
theorem KF.ldcr (h : KF w k s fc x) (q : Who w s p U K a cap gc cc) : (ldR 57 (.pointer (some ⟨k.K, 8 + p * 38 + 11, none⟩))).run Tryz.prog w = .ok (.agg (crA U K a cap)) w := by
  have := q.p16
  rw [Row.ld h.kt.kr (o := 8 + p * 38 + 11) (n := 6) (by rw [kerA_size]; omega) Tryz.underlying57 rfl (by kernel_rfl), cred_cells (by omega) rfl q.cr]
theorem KF.fsp (h : KF w k s fc x) : w.cell? ⟨k.K, 2, none⟩ = some (.pointer (some ⟨fc.F, 0, none⟩)) := by rw [h.kt.kr.cell (by decide), h.c2]
attribute [local go_sem ↓] ld_sta st_sta ld_crd
attribute [local go_sem] stS_new
set_option maxRecDepth 100000 in
set_option maxHeartbeats 800000 in
theorem kmay_is (h : KF w k s fc x) (q : Who w s p U K a cap gc cc) {i : Nat} (hi : i < 32) {n : Int} (hn : n = i + 1) (hk : ¬ (x.nd i).k = 0) {W : Int} {ok : Bool}
    (hM : ∀ w, Calls Tryz.prog 171 #[.agg (stA (x.nd i)), .agg (crA U K a cap), .int .i64 W] w fun e w' => e = .returned (.tuple #[.bool ok, .int .i64 0]) ∧ Below w.heap.size w w') :
    Calls Tryz.prog 95 #[.pointer (some ⟨k.K, 0, none⟩), .int .i64 p, .int .i64 n, .int .i64 W] w fun e w' => e = .returned (.int .i64 (bif ok then 0 else 7)) ∧ Below w.heap.size w w' := by
  have c2 := h.fsp
  have HST := Lib.hid (statF_is h.fs hi hn hk)
  have HLC := Lib.hid (fun wx (hb : Below w.heap.size w wx) => (h.keep hb).ldcr (q.keep hb))
  have HM := Lib.hid hM
  have i17 : (p : Int) < 17 := by have := q.p16; omega
  clear h q hM hi hn hk
  generalize x.nd i = nd at *
  cases ok
  all_goals
    dsimp only [cond_true, cond_false]
    go_enter Tryz.func95, Tryz.ntmps95
    go_upto_region 2 with (go_at_call 162; (with_reducible refine HST.out.mono ?_); rintro e1 w1 ⟨rfl, hb1⟩)
    have HB2 := Lib.hid (hb1.alloc hb1.size (.cells (stA nd) 33))
    have HR2 := Lib.hid (row_new w1 33 (stA nd))
    clear hb1 c2
    generalize hb9 : w1.heap.size = b9 at *
    generalize w1.alloc (.cells (stA nd) 33) = w2 at *
    clear hb9
    have HL : Hid (∀ wx, Below w2.heap.size w2 wx → ((ldR 33 (.pointer (some ⟨b9, 0, none⟩))).run Tryz.prog wx = .ok (.agg (stA nd)) wx ∧ (ldR 57 (.pointer (some ⟨k.K, 8 + p * 38 + 11, none⟩))).run Tryz.prog wx = .ok (.agg (crA U K a cap)) wx)) := Lib.hid (fun wx hb => ⟨(HR2.out.keep hb).ld0 Tryz.underlying33 rfl (by unfold stA; kernel_rfl), HLC.out _ (HB2.out.trans (hb.mono HB2.out.size))⟩)
    go_upto_region 4 with fail
    go_region_held3 (fun wx => (ldR 33 (.pointer (some ⟨b9, 0, none⟩))).run Tryz.prog wx = .ok (.agg (stA nd)) wx ∧ (ldR 57 (.pointer (some ⟨k.K, 8 + p * 38 + 11, none⟩))).run Tryz.prog wx = .ok (.agg (crA U K a cap)) wx) (first | (with_reducible exact HL.out _ (Below.refl _ _)) | (with_reducible exact HL.out _ (Below.refl _ _).drew) | (with_reducible exact HL.out _ HB3.out) | fail)
          (first | (go_at_call 171; (with_reducible refine (HM.out _).mono ?_); rintro e3 w3 ⟨rfl, hb3⟩; have HB3 := Lib.hid ((Below.refl w2.heap.size w2).drew.trans hb3); clear hb3) | fail)
    go_wp2_with fail
    go_ret
    exact ⟨rfl, HB2.out.trans (HB3.out.mono HB2.out.size)⟩
set_option maxRecDepth 100000 in
set_option maxHeartbeats 800000 in
theorem klast_is (h : KF w k s fc x) (q : Who w s p U K a cap gc cc) (hk : (x.nd 0).k = 2)
    (hM : ∀ w, Calls Tryz.prog 171 #[.agg (stA (x.nd 0)), .agg (crA U K a cap), .int .i64 4] w fun e w' => e = .returned (.tuple #[.bool true, .int .i64 0]) ∧ Below w.heap.size w w')
    (hM2 : ∀ w, Calls Tryz.prog 171 #[.agg (stA (x.nd 0)), .agg (crA U K a cap), .int .i64 2] w fun e w' => e = .returned (.tuple #[.bool true, .int .i64 0]) ∧ Below w.heap.size w w') :
    Calls Tryz.prog 164 #[.pointer (some ⟨k.K, 0, none⟩), .int .i64 p, .string ⟨#[102]⟩] w fun e w' => e = .returned (.tuple #[.int .i64 1, .string ⟨#[102]⟩, .int .i64 0]) ∧ Below w.heap.size w w' := by
  have HPL := Lib.hid (fun wx (hb : Below w.heap.size w wx) => pLast_is (h.keep hb).fs hk q.hU q.hK q.hc (q.keep hb).g q.c1 q.c2 hM)
  have HMY := Lib.hid (fun wx (hb : Below w.heap.size w wx) => kmay_is (h.keep hb) (q.keep hb) (i := 0) (by decide) (n := 1) rfl (by rw [hk]; decide) hM2)
  have HL : Hid (∀ wx, Below w.heap.size w wx → (wx.cell? ⟨k.K, 2, none⟩ = some (.pointer (some ⟨fc.F, 0, none⟩)) ∧ wx.cell? ⟨k.K, 8 + p * 38 + 18, none⟩ = some (.slice none 0 0) ∧ (ldR 57 (.pointer (some ⟨k.K, 8 + p * 38 + 11, none⟩))).run Tryz.prog wx = .ok (.agg (crA U K a cap)) wx ∧ wx.cell? ⟨k.K, 8 + p * 38 + 17, none⟩ = some (.slice (some ⟨gc, 0, none⟩) 1 cc))) := Lib.hid (fun wx hb => ⟨(h.keep hb).fsp, by rw [(h.keep hb).kt.kr.cell (by have := q.p16; omega), q.mt], (h.keep hb).ldcr (q.keep hb), by rw [(h.keep hb).kt.kr.cell (by have := q.p16; omega), q.wd]⟩)
  have i17 : (p : Int) < 17 := by have := q.p16; omega
  clear h q hM hM2 hk
  go_enter Tryz.func164, Tryz.ntmps164
  go_upto_region 2 with fail
  go_region_held3 (fun wx => wx.cell? ⟨k.K, 2, none⟩ = some (.pointer (some ⟨fc.F, 0, none⟩)) ∧ wx.cell? ⟨k.K, 8 + p * 38 + 18, none⟩ = some (.slice none 0 0) ∧ (ldR 57 (.pointer (some ⟨k.K, 8 + p * 38 + 11, none⟩))).run Tryz.prog wx = .ok (.agg (crA U K a cap)) wx ∧ wx.cell? ⟨k.K, 8 + p * 38 + 17, none⟩ = some (.slice (some ⟨gc, 0, none⟩) 1 cc)) (first | (with_reducible exact HL.out _ (Below.refl _ _)) | (with_reducible exact HL.out _ (Below.refl _ _).drew) | (with_reducible exact HL.out _ HB1.out) | fail)
          (first | (go_at_call 234; (with_reducible refine (HPL.out _ (Below.refl _ _).drew).mono ?_); rintro e1 w1 ⟨g1, c1, rfl, y1, q1, q2, hb1⟩; have HB1 := Lib.hid ((Below.refl w.heap.size w).drew.trans hb1); clear hb1) | fail)
  have HM1 := Lib.hid (HMY.out _ HB1.out)
  have hmx : (c1 : Int) ≤ 9223372036854775807 := by unfold maxLen at q2; omega
  clear HMY HPL HL q2
  go_wp2_with (go_at_call 95; (with_reducible refine HM1.out.mono ?_); rintro e2 w2 ⟨rfl, hb2⟩)
  go_ret3
  exact ⟨rfl, HB1.out.trans (hb2.mono HB1.out.size)⟩
end
end Go.Proofs.YtegpngjmplcfpaaGreatDoor
namespace Go.Proofs.YtegpngjmplcfpaaGreatDoor
open Go.RowKit
set_option linter.unusedVariables false
set_option linter.unusedSimpArgs false
theorem KS.toKT2 {w : World} {B K P Wh Fi Pr R M so sp : Nat} {c : Nat → Value} (h : KS w B K P Wh Fi Pr R M so sp c) : ∃ tag T cc wb, KT w ⟨K, Wh, Fi, Pr, R, M, so⟩ (sS0 c tag T cc sp wb) ∧ c 63 = .slice (some ⟨wb, 0, none⟩) 1 1 ∧ ∀ j, tag j ≠ 0 → B ≤ j ∧ (j ≤ M ∨ sp ≤ j) := by
  obtain ⟨T, cc, hru, hspT⟩ := h.ru
  obtain ⟨wb, hc63, hwb, hspw⟩ := h.wd
  obtain ⟨T', C, e, hT⟩ := hru.rows (by decide)
  injection e with e
  injection e with e
  subst e
  have hTw : T ≠ wb := fun e => by
    have r1 := hT.row
    have r2 := hwb
    rw [e] at r1
    have r3 : some (Obj.cells C 188) = some (Obj.cells #[.int .i64 1] 3) := r1.symm.trans r2
    injection r3 with r3
    injection r3 with _ r4
    exact absurd r4 (by decide)
  have b := h.kp.b
  have o := h.or
  refine ⟨fun j => if j = K then 1 else if j = Wh then 2 else if j = Fi then 3 else if j = Pr then 4 else if j = R ∨ j = T then 5 else if j = M ∨ j = so ∨ j = sp then 6 else if j = wb then 7 else 0, T, cc, wb, ⟨h.kr, h.c1, h.c4, h.c5, h.c6, h.c7, h.kp.wh, h.kp.fi, h.kp.pr, hru, mem0 h.mm h.om h.im o.2.2.1 o.2.2.2, fun p q hq => ?_, ?_, ?_, ?_, ?_, fun j hj => ?_, fun j hj => ?_, fun j hj => ?_⟩, hc63, fun j hj => ⟨?_, ?_⟩⟩
  · simp only [sS0] at hq
    split at hq
    · rename_i hp
      injection hq with hq
      subst hp
      subst hq
      refine ⟨⟨1, hc63⟩, by rw [hwb.cell]; rfl, hwb.lt, ?_⟩
      simp only [sS0]
      rw [if_neg (by omega), if_neg (by omega), if_neg (by omega), if_neg (by omega), if_neg (by omega), if_neg (by omega), if_pos trivial]
    · cases hq
  · simp only [sS0]; rw [if_pos trivial]
  · simp only [sS0]; rw [if_neg (by omega), if_pos trivial]
  · simp only [sS0]; rw [if_neg (by omega), if_neg (by omega), if_pos trivial]
  · simp only [sS0]; rw [if_neg (by omega), if_neg (by omega), if_neg (by omega), if_pos trivial]
  · have hj : j = R ∨ j = T := by
      rcases hj with q | ⟨a, q, q2⟩
      · exact .inl q
      · simp only [sS0] at q
        injection q with q
        subst q
        exact .inr q2
    simp only [sS0]
    rw [if_neg (by omega), if_neg (by omega), if_neg (by omega), if_neg (by omega), if_pos hj]
  · have hj : j = M ∨ j = so ∨ j = sp := by
      rcases hj with q | q | q | ⟨x, q⟩ | q
      · exact .inl q
      · exact .inr (.inl q)
      · cases q
      · simp only [sS0, mS0] at q
        split at q
        · injection q with q; exact .inr (.inr q.symm)
        · cases q
      · cases q
    have n : ¬ (j = R ∨ j = T) := by omega
    simp only [sS0]
    rw [if_neg (by omega), if_neg (by omega), if_neg (by omega), if_neg (by omega), if_neg n, if_pos hj]
  · have l1 := h.kr.lt
    have l2 := hru.lt
    have l3 := hT.row.lt
    have l4 := h.mm.lt
    have l5 := hwb.lt
    obtain ⟨D, ⟨es, ck, hb, _⟩, _⟩ := h.im
    have l6 := (Array.getElem?_eq_some_iff.1 hb).1
    simp only [sS0]
    rw [if_neg (by omega), if_neg (by omega), if_neg (by omega), if_neg (by omega), if_neg (by omega), if_neg (by omega), if_neg (by omega)]
  · rcases Nat.lt_or_ge j B with q | q
    · exfalso
      apply hj
      simp only
      rw [if_neg (by omega), if_neg (by omega), if_neg (by omega), if_neg (by omega), if_neg (by omega), if_neg (by omega), if_neg (by omega)]
    · exact q
  · by_cases q : j ≤ M ∨ sp ≤ j
    · exact q
    · exfalso
      apply hj
      simp only
      rw [if_neg (by omega), if_neg (by omega), if_neg (by omega), if_neg (by omega), if_neg (by omega), if_neg (by omega), if_neg (by omega)]
end Go.Proofs.YtegpngjmplcfpaaGreatDoor
namespace Go.Proofs.YtegpngjmplcfpaaGreatDoor
open Go.RowKit
set_option linter.unusedVariables false
set_option linter.unusedSimpArgs false
def callA (n a b c : Int) : Array Value := #[.int .i64 n, .int .i64 a, .int .i64 b, .int .i64 c, .string ByteArray.empty, .string ByteArray.empty, .slice none 0 0]
def bdC (ps : Array (Nat × Value)) : Sem Value := Instr.build 38 ps
theorem bd_call (ps : Array (Nat × Value)) : Instr.build 38 ps = bdC ps := rfl
theorem bdc_0 (w : World) (n : Int) : (bdC #[(0, .int .i64 n)]).run Tryz.prog w = .ok (.agg (callA n 0 0 0)) w := by kernel_rfl
theorem bdc_1 (w : World) (n a : Int) : (bdC #[(0, .int .i64 n), (1, .int .i64 a)]).run Tryz.prog w = .ok (.agg (callA n a 0 0)) w := by kernel_rfl
theorem bdc_3 (w : World) (n a b c : Int) : (bdC #[(0, .int .i64 n), (1, .int .i64 a), (2, .int .i64 b), (3, .int .i64 c)]).run Tryz.prog w = .ok (.agg (callA n a b c)) w := by kernel_rfl
theorem ans_new (w : World) (e a b : Int) : (stR 35 (.pointer (some ⟨w.heap.size, 0, none⟩)) (.agg (ansV e a b (.slice none 0 0)))).run Tryz.prog (w.alloc (.cells #[.int .i64 0, .int .i64 0, .int .i64 0, .slice none 0 0, .slice none 0 0, .int .i64 0, .int .i64 0, .int .i64 0, .int .i64 0, .int .i64 0, .int .i64 0] 35)) = .ok () (w.alloc (.cells (ansV e a b (.slice none 0 0)) 35)) := st0_new w rfl (by kernel_rfl) (ansV_one _ _ _ rfl)
theorem start1 : (ProcLaw.start 1).st = 1 := by decide
theorem start1n : (ProcLaw.start 1).st ≠ 0 := by decide
theorem start2 : (ProcLaw.start 2).st = 0 := by decide
theorem f0n : 0 ≤ OpenLaw.f0.n ∧ OpenLaw.f0.n ≤ 200 := by decide
/-- a task that is awake and has no signal -/
def Calm (c : Nat → Value) (p : Nat) : Prop := c (8 + p * 38 + 37) = .bool false ∧ ∀ j, j < 18 → c (8 + p * 38 + 19 + j) = .int .i64 0
theorem Calm.other {c c' : Nat → Value} {p q : Nat} (h : Calm c q) (hc : ∀ j, (j < 8 + p * 38 ∨ 8 + p * 38 + 38 ≤ j) → c' j = c j) (hn : q ≠ p) : Calm c' q := ⟨(hc _ (by omega)).trans h.1, fun j hj => (hc _ (by omega)).trans (h.2 j hj)⟩
theorem Calm.awake {s : KSt} {p : Nat} (h : Calm s.c p) (h1 : 1 ≤ p) (h2 : p ≤ 16) (hl : (s.t p).st = 1) : Awake s p := ⟨h1, h2, hl, h.1, h.2⟩
theorem kz_sigs (j : Nat) (hj : j < 18) : kz (65 + j) = .int .i64 0 := by
  have h := congrArg (fun l => l[j]?) kz_sig
  simp only [List.getElem?_map, List.getElem?_replicate, if_pos hj, List.getElem?_range hj, Option.map_some] at h
  injection h
section
variable {w : World} {B K P Wh Fi Pr R M so sp : Nat} {c : Nat → Value}
theorem KS.calm (h : KS w B K P Wh Fi Pr R M so sp c) : Calm c 1 := ⟨h.sl, fun j hj => (h.sg j hj).trans (kz_sigs j hj)⟩
end
end Go.Proofs.YtegpngjmplcfpaaGreatDoor
namespace Go.Proofs.YtegpngjmplcfpaaGreatDoor
open Go.RowKit
set_option linter.unusedVariables false
set_option linter.unusedSimpArgs false
section
variable {w : World} {B K P Wh Fi Pr R M so sp Tb cc wb : Nat} {c : Nat → Value} {tag : Nat → Nat}
theorem who1 (hs : KS w B K P Wh Fi Pr R M so sp c) (h63 : c 63 = .slice (some ⟨wb, 0, none⟩) 1 1) (hg : w.cell? ⟨wb, 0, none⟩ = some (.int .i64 1)) : Who w (sS0 c tag Tb cc sp wb) 1 0 127 none 0 wb 1 := by
  obtain ⟨h0, h1, h2, h3, h4, h5, h6⟩ := hs.tk
  refine ⟨by decide, fun i hi => ?_, h63, ?_, hg, Nat.zero_le _, by decide, by decide, by decide, by decide⟩
  · have : i = 0 ∨ i = 1 ∨ i = 2 ∨ i = 3 ∨ i = 4 ∨ i = 5 := by omega
    rcases this with rfl | rfl | rfl | rfl | rfl | rfl
    · exact congrArg some h1.symm
    · exact congrArg some h2.symm
    · exact congrArg some h3.symm
    · exact congrArg some h4.symm
    · exact congrArg some h5.symm
    · exact congrArg some h6.symm
  · show c 64 = _
    rw [hs.ck 64 (by decide) (by decide) (.inr (by decide))]
    unfold kz
    kernel_rfl
end
end Go.Proofs.YtegpngjmplcfpaaGreatDoor
namespace Go.Proofs.YtegpngjmplcfpaaGreatDoor
open Go.RowKit Go.Maps
set_option linter.unusedVariables false
set_option linter.unusedSimpArgs false
theorem mkS2 (w : World) : (mkS (.int .i64 2) (.int .i64 2)).run Tryz.prog w = .ok (.slice (some ⟨w.heap.size, 0, none⟩) 2 2) (w.alloc (.cells #[.string ⟨#[]⟩, .string ⟨#[]⟩] 9)) := by kernel_rfl
set_option maxRecDepth 100000 in
set_option maxHeartbeats 400000 in
theorem sidzS_is (w : World) : Calls Tryz.prog 316 #[.string ⟨#[47, 102]⟩, .string ⟨#[47]⟩] w fun e w' => e = .returned (.int .i64 0) ∧ w = w' := by
  have hi : (Instr.index 9 (.string ⟨#[47]⟩) (.int .i64 0)).run Tryz.prog w = .ok (.int .u8 47) w := by kernel_rfl
  have hn : Lib.indexByte (⟨#[47, 102]⟩ : ByteArray).data.toList (47 : Int).toNat.toUInt8 = 0 := by decide
  have H : Hid (∀ w, Calls Tryz.prog 317 #[.string ⟨#[47, 102]⟩, .int .u8 47] w fun e w' => e = .returned (.int .i64 0) ∧ w = w') := Lib.hid (fun w => by have := ixb0_is ⟨#[47, 102]⟩ 47 w; rw [hn] at this; exact this)
  go_enter Tryz.func316, Tryz.ntmps316
  go_wp2_with (go_at_call 317; (with_reducible refine (H.out _).mono ?_); rintro e1 w1 ⟨rfl, rfl⟩)
  go_ret
  exact ⟨rfl, rfl⟩
set_option maxRecDepth 100000 in
set_option maxHeartbeats 400000 in
theorem sidxS_is (w : World) : Calls Tryz.prog 268 #[.string ⟨#[47, 102]⟩, .string ⟨#[47]⟩] w fun e w' => e = .returned (.int .i64 0) ∧ w = w' := by
  have H := Lib.hid (sidzS_is w)
  go_enter Tryz.func268, Tryz.ntmps268
  go_wp2_with (go_at_call 316; (with_reducible refine H.out.mono ?_); rintro e1 w1 ⟨rfl, rfl⟩)
  go_ret
  exact ⟨rfl, rfl⟩
section
attribute [local go_sem ↓] mkS_eq ixS_eq slS_eq
set_option maxRecDepth 100000 in
set_option maxHeartbeats 800000 in
theorem gsplitS_is (w : World) : Calls Tryz.prog 204 #[.string ⟨#[47, 102]⟩, .string ⟨#[47]⟩, .int .i64 0, .int .i64 (-1)] w fun e w' => ∃ g, e = .returned (.slice (some ⟨g, 0, none⟩) 2 2) ∧ w.heap.size ≤ g ∧ Row w' g 9 #[.string ⟨#[]⟩, .string ⟨#[102]⟩] ∧ Below w.heap.size w w' := by
  have HC := Lib.hid (count1_is w ⟨#[47, 102]⟩)
  have e0 : Lib.countByte (⟨#[47, 102]⟩ : ByteArray).data.toList 47 = 1 := by decide
  rw [e0] at HC
  have HI := Lib.hid sidxS_is
  have hm := mkS2 w
  have hs1 : ∀ w, (slS (.string ⟨#[47, 102]⟩) none (some (.int .i64 0)) none).run Tryz.prog w = .ok (.string ⟨#[]⟩) w := fun w => by kernel_rfl
  have hs2 : ∀ w, (slS (.string ⟨#[47, 102]⟩) (some (.int .i64 1)) none none).run Tryz.prog w = .ok (.string ⟨#[102]⟩) w := fun w => by kernel_rfl
  have hr := row_new w 9 #[.string ⟨#[]⟩, .string ⟨#[]⟩]
  have y0 := hr.cell 0
  have z0 := hr.fz 0
  have y1 := hr.cell 1
  have z1 := hr.fz 1
  have HR := Lib.hid hr
  have HB := Lib.hid (Go.Joins.below_alloc1 w (.cells #[.string ⟨#[]⟩, .string ⟨#[]⟩] 9))
  clear hr
  go_enter Tryz.func204, Tryz.ntmps204
  go_upto_region 8 with (go_at_call 267; (with_reducible refine HC.out.mono ?_); rintro e1 w1 ⟨rfl, rfl⟩)
  go_upto_region 9 with fail
  generalize w.alloc (.cells #[.string ⟨#[]⟩, .string ⟨#[]⟩] 9) = w2 at *
  obtain ⟨z, hz⟩ : ∃ z, z = w.heap.size := ⟨_, rfl⟩
  rw [← hz] at y0 z0 y1 z1 HR ⊢
  have HZ := Lib.hid hz
  clear hz hm
  go_wp2_with fail
  refine wp_loop_rounds 2 ?_
  rw [rounds_succ]
  go_upto_region 14 with (go_at_call 268; (with_reducible refine (HI.out _).mono ?_); rintro e2 w3 ⟨rfl, rfl⟩)
  go_upto_region 15 with fail
  have HR3 : Hid (Row (w2.setCell ⟨z, 0, none⟩ (.string ⟨#[]⟩)) z 9 #[.string ⟨#[]⟩, .string ⟨#[]⟩]) := Lib.hid (by
    rw [HR.out.setCell]
    exact HR.out.setRow _)
  have HB3 := Lib.hid (HB.out.trans ((Upd.set (S := fun j => j = z) w2 (b := z) (i := 0) (.string ⟨#[]⟩) rfl).toBelow HB.out.size (fun k hk e => by have e : k = z := e; have := HZ.out; omega)))
  generalize w2.setCell ⟨z, 0, none⟩ (.string ⟨#[]⟩) = w3 at *
  clear y0 z0 y1 z1
  have y1 := HR3.out.cell 1
  have z1 := HR3.out.fz 1
  go_wp2_with fail
  rw [rounds_succ]
  go_wp2_with fail
  go_ret
  refine ⟨z, rfl, Nat.le_of_eq HZ.out.symm, ?_, HB3.out.trans ((Upd.set (S := fun j => j = z) w3 (b := z) (i := 1) (.string ⟨#[102]⟩) rfl).toBelow HB3.out.size (fun k hk e => by have e : k = z := e; have := HZ.out; omega))⟩
  rw [HR3.out.setCell]
  exact HR3.out.setRow _
end
section
set_option maxRecDepth 100000 in
set_option maxHeartbeats 800000 in
theorem ssplitS_is (w : World) : Calls Tryz.prog 126 #[.string ⟨#[47, 102]⟩, .string ⟨#[47]⟩] w fun e w' => ∃ g, e = .returned (.slice (some ⟨g, 0, none⟩) 2 2) ∧ w.heap.size ≤ g ∧ Row w' g 9 #[.string ⟨#[]⟩, .string ⟨#[102]⟩] ∧ Below w.heap.size w w' := by
  have HG := Lib.hid (gsplitS_is w)
  go_enter Tryz.func126, Tryz.ntmps126
  go_wp2_with (go_at_call 204; (with_reducible refine HG.out.mono ?_); rintro e1 w1 ⟨g, rfl, h⟩)
  go_ret
  exact ⟨g, rfl, h⟩
end
set_option maxRecDepth 100000 in
set_option maxHeartbeats 400000 in
theorem sidzR_is (w : World) : Calls Tryz.prog 316 #[.string ⟨#[47]⟩, .string ⟨#[47]⟩] w fun e w' => e = .returned (.int .i64 0) ∧ w = w' := by
  have hi : (Instr.index 9 (.string ⟨#[47]⟩) (.int .i64 0)).run Tryz.prog w = .ok (.int .u8 47) w := by kernel_rfl
  have hn : Lib.indexByte (⟨#[47]⟩ : ByteArray).data.toList (47 : Int).toNat.toUInt8 = 0 := by decide
  have H : Hid (∀ w, Calls Tryz.prog 317 #[.string ⟨#[47]⟩, .int .u8 47] w fun e w' => e = .returned (.int .i64 0) ∧ w = w') := Lib.hid (fun w => by have := ixb0_is ⟨#[47]⟩ 47 w; rw [hn] at this; exact this)
  go_enter Tryz.func316, Tryz.ntmps316
  go_wp2_with (go_at_call 317; (with_reducible refine (H.out _).mono ?_); rintro e1 w1 ⟨rfl, rfl⟩)
  go_ret
  exact ⟨rfl, rfl⟩
set_option maxRecDepth 100000 in
set_option maxHeartbeats 400000 in
theorem sidxR_is (w : World) : Calls Tryz.prog 268 #[.string ⟨#[47]⟩, .string ⟨#[47]⟩] w fun e w' => e = .returned (.int .i64 0) ∧ w = w' := by
  have H := Lib.hid (sidzR_is w)
  go_enter Tryz.func268, Tryz.ntmps268
  go_wp2_with (go_at_call 316; (with_reducible refine H.out.mono ?_); rintro e1 w1 ⟨rfl, rfl⟩)
  go_ret
  exact ⟨rfl, rfl⟩
section
attribute [local go_sem ↓] mkS_eq ixS_eq slS_eq
set_option maxRecDepth 100000 in
set_option maxHeartbeats 800000 in
theorem gsplitR_is (w : World) : Calls Tryz.prog 204 #[.string ⟨#[47]⟩, .string ⟨#[47]⟩, .int .i64 0, .int .i64 (-1)] w fun e w' => ∃ g, e = .returned (.slice (some ⟨g, 0, none⟩) 2 2) ∧ w.heap.size ≤ g ∧ Row w' g 9 #[.string ⟨#[]⟩, .string ⟨#[]⟩] ∧ Below w.heap.size w w' := by
  have HC := Lib.hid (count1_is w ⟨#[47]⟩)
  have e0 : Lib.countByte (⟨#[47]⟩ : ByteArray).data.toList 47 = 1 := by decide
  rw [e0] at HC
  have HI := Lib.hid sidxR_is
  have hm := mkS2 w
  have hs1 : ∀ w, (slS (.string ⟨#[47]⟩) none (some (.int .i64 0)) none).run Tryz.prog w = .ok (.string ⟨#[]⟩) w := fun w => by kernel_rfl
  have hs2 : ∀ w, (slS (.string ⟨#[47]⟩) (some (.int .i64 1)) none none).run Tryz.prog w = .ok (.string ⟨#[]⟩) w := fun w => by kernel_rfl
  have hr := row_new w 9 #[.string ⟨#[]⟩, .string ⟨#[]⟩]
  have y0 := hr.cell 0
  have z0 := hr.fz 0
  have y1 := hr.cell 1
  have z1 := hr.fz 1
  have HR := Lib.hid hr
  have HB := Lib.hid (Go.Joins.below_alloc1 w (.cells #[.string ⟨#[]⟩, .string ⟨#[]⟩] 9))
  clear hr
  go_enter Tryz.func204, Tryz.ntmps204
  go_upto_region 8 with (go_at_call 267; (with_reducible refine HC.out.mono ?_); rintro e1 w1 ⟨rfl, rfl⟩)
  go_upto_region 9 with fail
  generalize w.alloc (.cells #[.string ⟨#[]⟩, .string ⟨#[]⟩] 9) = w2 at *
  obtain ⟨z, hz⟩ : ∃ z, z = w.heap.size := ⟨_, rfl⟩
  rw [← hz] at y0 z0 y1 z1 HR ⊢
  have HZ := Lib.hid hz
  clear hz hm
  go_wp2_with fail
  refine wp_loop_rounds 2 ?_
  rw [rounds_succ]
  go_upto_region 14 with (go_at_call 268; (with_reducible refine (HI.out _).mono ?_); rintro e2 w3 ⟨rfl, rfl⟩)
  go_upto_region 15 with fail
  have HR3 : Hid (Row (w2.setCell ⟨z, 0, none⟩ (.string ⟨#[]⟩)) z 9 #[.string ⟨#[]⟩, .string ⟨#[]⟩]) := Lib.hid (by
    rw [HR.out.setCell]
    exact HR.out.setRow _)
  have HB3 := Lib.hid (HB.out.trans ((Upd.set (S := fun j => j = z) w2 (b := z) (i := 0) (.string ⟨#[]⟩) rfl).toBelow HB.out.size (fun k hk e => by have e : k = z := e; have := HZ.out; omega)))
  generalize w2.setCell ⟨z, 0, none⟩ (.string ⟨#[]⟩) = w3 at *
  clear y0 z0 y1 z1
  have y1 := HR3.out.cell 1
  have z1 := HR3.out.fz 1
  go_wp2_with fail
  rw [rounds_succ]
  go_wp2_with fail
  go_ret
  refine ⟨z, rfl, Nat.le_of_eq HZ.out.symm, ?_, HB3.out.trans ((Upd.set (S := fun j => j = z) w3 (b := z) (i := 1) (.string ⟨#[]⟩) rfl).toBelow HB3.out.size (fun k hk e => by have e : k = z := e; have := HZ.out; omega))⟩
  rw [HR3.out.setCell]
  exact HR3.out.setRow _
end
section
set_option maxRecDepth 100000 in
set_option maxHeartbeats 800000 in
theorem ssplitR_is (w : World) : Calls Tryz.prog 126 #[.string ⟨#[47]⟩, .string ⟨#[47]⟩] w fun e w' => ∃ g, e = .returned (.slice (some ⟨g, 0, none⟩) 2 2) ∧ w.heap.size ≤ g ∧ Row w' g 9 #[.string ⟨#[]⟩, .string ⟨#[]⟩] ∧ Below w.heap.size w w' := by
  have HG := Lib.hid (gsplitR_is w)
  go_enter Tryz.func126, Tryz.ntmps126
  go_wp2_with (go_at_call 204; (with_reducible refine HG.out.mono ?_); rintro e1 w1 ⟨g, rfl, h⟩)
  go_ret
  exact ⟨g, rfl, h⟩
end
section
attribute [local go_sem ↓] apS_eq
set_option maxRecDepth 100000 in
set_option maxHeartbeats 800000 in
theorem psplitS_is (w : World) : Calls Tryz.prog 60 #[.string ⟨#[47, 102]⟩] w fun e w' => ∃ g c, e = .returned (.tuple #[.bool true, .slice (some ⟨g, 0, none⟩) 1 c, .int .i64 0]) ∧ w.heap.size ≤ g ∧ w'.cell? ⟨g, 0, none⟩ = some (.string ⟨#[102]⟩) ∧ 1 ≤ c ∧ c ≤ maxLen ∧ Below w.heap.size w w' := by
  have HG := Lib.hid (ssplitS_is w)
  have hi : ∀ w, (Instr.index 9 (.string ⟨#[47, 102]⟩) (.int .i64 0)).run Tryz.prog w = .ok (.int .u8 47) w := fun w => by kernel_rfl
  go_enter Tryz.func60, Tryz.ntmps60
  go_wp2_with (go_at_call 126; (with_reducible refine HG.out.mono ?_); rintro e1 w1 ⟨g, rfl, hg, hr, hb1⟩; have y0 := hr.cell 0; have y1 := hr.cell 1; have HB1 := Lib.hid hb1; clear hr hb1 hg)
  refine wp_loop_rounds 3 ?_
  rw [rounds_succ]
  go_wp2_with fail
  rw [rounds_succ]
  obtain ⟨g2, c2, w2, hap, hg2, hc2, h1, h2, hb2⟩ := pushS w1 ⟨#[102]⟩
  have hcm : (c2 : Int) ≤ 9223372036854775807 := by unfold maxLen at h2; omega
  have HF := Lib.hid (And.intro (Nat.le_trans HB1.out.size hg2) (And.intro hc2 (And.intro h1 (And.intro h2 (HB1.out.trans (hb2.mono HB1.out.size))))))
  clear hg2 hc2 h1 h2 hb2
  go_wp2_with fail
  rw [rounds_succ]
  have hi2 := hi w2
  go_wp2_with fail
  first | go_ret3 | go_ret
  exact ⟨g2, c2, rfl, HF.out⟩
set_option maxRecDepth 100000 in
set_option maxHeartbeats 800000 in
theorem psplitR_is (w : World) : Calls Tryz.prog 60 #[.string ⟨#[47]⟩] w fun e w' => e = .returned (.tuple #[.bool true, .slice none 0 0, .int .i64 0]) ∧ Below w.heap.size w w' := by
  have HG := Lib.hid (ssplitR_is w)
  have hi : ∀ w, (Instr.index 9 (.string ⟨#[47]⟩) (.int .i64 0)).run Tryz.prog w = .ok (.int .u8 47) w := fun w => by kernel_rfl
  go_enter Tryz.func60, Tryz.ntmps60
  go_wp2_with (go_at_call 126; (with_reducible refine HG.out.mono ?_); rintro e1 w1 ⟨g, rfl, hg, hr, hb1⟩; have y0 := hr.cell 0; have y1 := hr.cell 1; have HB1 := Lib.hid hb1; clear hr hb1 hg)
  refine wp_loop_rounds 3 ?_
  rw [rounds_succ]
  go_wp2_with fail
  rw [rounds_succ]
  go_wp2_with fail
  rw [rounds_succ]
  have hi2 := hi w1
  go_wp2_with fail
  first | go_ret3 | go_ret
  exact ⟨rfl, HB1.out⟩
end
end Go.Proofs.YtegpngjmplcfpaaGreatDoor
namespace Go.Proofs.YtegpngjmplcfpaaGreatDoor
open Go.RowKit Go.Maps
set_option linter.unusedVariables false
set_option linter.unusedSimpArgs false
/-- the k-th 64 bytes of some, and zeros -/
def secW (z : List Int) (k : Nat) : List Int := (List.range 64).map fun j => z.getD (64 * k + j) 0
def secP (z : List Int) (k i : Nat) : List Int := (List.range 64).map fun j => if j < i then z.getD (64 * k + j) 0 else 0
theorem secW_len (z : List Int) (k : Nat) : (secW z k).length = 64 := by simp [secW]
theorem secP_len (z : List Int) (k i : Nat) : (secP z k i).length = 64 := by simp [secP]
theorem secP_zero (z : List Int) (k : Nat) : secP z k 0 = zeros 64 := by
  apply List.ext_getElem
  · rw [secP_len, zeros_len]
  · intro j h1 h2
    have e : (zeros 64)[j] = 0 := by unfold zeros; exact List.getElem_replicate ..
    rw [e]
    simp [secP]
theorem secP_all (z : List Int) (k : Nat) : secP z k 64 = secW z k := by
  apply List.ext_getElem
  · simp [secP, secW]
  · intro j h1 h2
    have : j < 64 := by simpa [secP] using h1
    simp [secP, secW, this]
theorem secP_next (z : List Int) (k : Nat) {i : Nat} (hi : i < 64) : (secP z k i).set i (z.getD (64 * k + i) 0) = secP z k (i + 1) := by
  apply List.ext_getElem
  · simp [secP]
  · intro j h1 h2
    rw [List.getElem_set]
    by_cases e : i = j
    · subst e
      simp [secP]
    · have e1 : j < i + 1 ↔ j < i := by omega
      simp [secP, e, e1]
theorem secP_stay (z : List Int) (k : Nat) {i : Nat} (h : z.length ≤ 64 * k + i) : secP z k (i + 1) = secP z k i := by
  apply List.ext_getElem
  · simp [secP]
  · intro j h1 h2
    by_cases e : i = j
    · subst e
      simp [secP, List.getElem?_eq_none h]
    · have e1 : j < i + 1 ↔ j < i := by omega
      simp [secP, e1]
/-- a block whose first 64 cells are these bytes -/
structure WB (w : World) (g cap : Nat) (l : List Int) : Prop where
  r : ∃ C, Row w g 5 C ∧ C.size = cap ∧ ∀ i, i < 64 → C[i]? = some (u8V (l.getD i 0))
  c0 : 64 ≤ cap
  c1 : cap ≤ maxLen
  ln : l.length = 64
section
variable {w w' : World} {g cap B : Nat} {l : List Int}
theorem WB.of_own {v : Value} (h : OB B w v l) (hl : l.length = 64) : ∃ g cap, v = .slice (some ⟨g, 0, none⟩) 64 cap ∧ B ≤ g ∧ g < w.heap.size ∧ WB w g cap l := by
  unfold OB at h
  rw [hl] at h
  rcases h.2 with ⟨_, h0⟩ | ⟨g, cap, cur, rfl, hB, hg, h1, h2, h3, h4⟩
  · omega
  · have hr : Row w g 5 cur := hg
    refine ⟨g, cap, rfl, hB, hr.lt, ⟨cur, hr, by omega, fun i hi => ?_⟩, h1, h2, hl⟩
    have e : (l.map u8V)[i]? = some (u8V (l.getD i 0)) := by rw [List.getElem?_map, List.getElem?_eq_getElem (by omega)]; simp [hl, hi]
    rw [← h4, Nat.mul_one, List.getElem?_take, if_pos hi, Array.getElem?_toList] at e
    exact e
theorem WB.lt (h : WB w g cap l) : g < w.heap.size := by obtain ⟨C, hr, _⟩ := h.r; exact hr.lt
theorem WB.cell (h : WB w g cap l) {i : Nat} (hi : i < 64) : w.cell? ⟨g, i, none⟩ = some (.int .u8 (l.getD i 0)) := by
  obtain ⟨C, hr, _, hc⟩ := h.r
  rw [hr.cell]; exact hc i hi
theorem WB.fz (h : WB w g cap l) (i : Nat) : w.frozen? ⟨g, i, none⟩ = false := by
  obtain ⟨C, hr, _⟩ := h.r
  exact hr.fz i
theorem WB.set (h : WB w g cap l) {i : Nat} (hi : i < 64) (x : Int) : WB (w.setCell ⟨g, i, none⟩ (.int .u8 x)) g cap (l.set i x) := by
  obtain ⟨C, hr, hs, hc⟩ := h.r
  have hcap := h.c0
  refine ⟨⟨C.setIfInBounds i (.int .u8 x), by rw [hr.setCell]; exact hr.setRow _, by simpa using hs, fun j hj => ?_⟩, h.c0, h.c1, by rw [List.length_set]; exact h.ln⟩
  rw [Array.getElem?_setIfInBounds]
  have := h.ln
  by_cases e : i = j
  · subst e
    rw [if_pos rfl, if_pos (by omega)]
    simp [u8V, hi, h.ln]
  · rw [if_neg e, hc j hj]
    simp [List.getD_eq_getElem?_getD, List.getElem?_set_ne e]
theorem WB.upd {S : Nat → Prop} (h : WB w g cap l) (hu : Upd S w w') (hn : ¬ S g) : WB w' g cap l := by
  obtain ⟨C, hr, hs, hc⟩ := h.r
  exact ⟨⟨C, hr.upd hu hn, hs, hc⟩, h.c0, h.c1, h.ln⟩
theorem WB.keep (h : WB w g cap l) (hb : Below w.heap.size w w') : WB w' g cap l := h.upd (S := fun _ => False) (Upd.below hb) (fun e => e)
theorem WB.at (h : WB w g cap l) : At (Value.int .u8) 0 w (.slice (some ⟨g, 0, none⟩) 64 cap) l :=
  ⟨some ⟨g, 0, none⟩, cap, by rw [h.ln], by rw [h.ln]; exact h.c0, h.c1, .inr ⟨g, 0, rfl, h.lt, fun i hi => by rw [Nat.zero_add]; exact h.cell (by rw [← h.ln]; exact hi)⟩⟩
end
section
variable {w : World} {c : FC} {x : FM}
set_option maxRecDepth 100000 in
set_option maxHeartbeats 800000 in
theorem fileF_is (h : FSt w c x) {i : Nat} (hi : i < 32) {n : Int} (hn : n = i + 1) (hk : (x.nd i).k = 1) : Calls Tryz.prog 130 #[.pointer (some ⟨c.F, 0, none⟩), .int .i64 n] w fun e w' => e = .returned (.int .i64 0) ∧ w = w' := by
  have HT := Lib.hid (thereF_is h hi hn)
  rw [hk] at HT
  have HT : Hid (Calls Tryz.prog 213 #[.pointer (some ⟨c.F, 0, none⟩), .int .i64 n] w fun e w' => e = .returned (.bool true) ∧ w = w') := HT
  have c4 := h.c4
  have k0 := h.kind hi
  rw [hk] at k0
  have hcm : (x.cap : Int) ≤ 9223372036854775807 := by have := h.cp.2; unfold maxLen at this; omega
  have y1 : IntKind.i64.wrap (n - 1) = i := by rw [IntWalk.i64_in _ (by omega)]; omega
  have i3 : (i : Int) < 32 := by omega
  have i0 : (0 : Int) ≤ i := by omega
  clear h hn hk
  go_enter Tryz.func130, Tryz.ntmps130
  go_wp2_with (go_at_call 213; (with_reducible refine HT.out.mono ?_); rintro e1 w1 ⟨rfl, rfl⟩)
  go_ret
  exact ⟨rfl, rfl⟩
end
end Go.Proofs.YtegpngjmplcfpaaGreatDoor
