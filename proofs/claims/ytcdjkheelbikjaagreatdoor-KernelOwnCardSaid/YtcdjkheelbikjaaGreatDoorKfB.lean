/- The kernel with its file system as one state; the walks of kernel.may and kernel.last. The walks of kernel.walk at "f". -/
import Derived.Test.YtcdjkheelbikjaaGreatDoorFsA
import Derived.Test.YtcdjkheelbikjaaGreatDoorMnt2
import Derived.Test.YtcdjkheelbikjaaGreatDoorFsZ
namespace Go.Proofs.YtcdjkheelbikjaaGreatDoor
open Go.RowKit Go.Maps
set_option linter.unusedVariables false
set_option linter.unusedSimpArgs false
/-- the kernel with its file system: whose blocks bear no tag -/
structure KF (w : World) (k : KC) (s : KSt) (fc : FC) (x : FM) : Prop where
  kt : KT w k s
  c2 : s.c 2 = .pointer (some ⟨fc.F, 0, none⟩)
  fs : FSt w fc x
  sep : ∀ j, x.bs j → s.tag j = 0
theorem KF.keep {w w' : World} {k : KC} {s : KSt} {fc : FC} {x : FM} (h : KF w k s fc x) (hb : Below w.heap.size w w') : KF w' k s fc x := ⟨h.kt.keep hb, h.c2, h.fs.keep hb, h.sep⟩
/-- a task's cred and directory -/
structure Who (w : World) (s : KSt) (p : Nat) (U K : Int) (a : Option Addr) (cap gc cc : Nat) : Prop where
  p16 : p ≤ 16
  cr : ∀ i, i < 6 → (crA U K a cap)[i]? = some (s.c (8 + p * 38 + 11 + i))
  wd : s.c (8 + p * 38 + 17) = .slice (some ⟨gc, 0, none⟩) 1 cc
  mt : s.c (8 + p * 38 + 18) = .slice none 0 0
  g : w.cell? ⟨gc, 0, none⟩ = some (.int .i64 1)
  hc : cap ≤ maxLen
  c1 : 1 ≤ cc
  c2 : cc ≤ maxLen
  hU : 0 ≤ U ∧ U ≤ 99
  hK : 0 ≤ K ∧ K ≤ 127
theorem Who.keep {w w' : World} {s : KSt} {p : Nat} {U K : Int} {a : Option Addr} {cap gc cc : Nat} (h : Who w s p U K a cap gc cc) (hb : Below w.heap.size w w') : Who w' s p U K a cap gc cc := ⟨h.p16, h.cr, h.wd, h.mt, (hb.cell (p := ⟨gc, 0, none⟩) (World.block_lt_of_cell? w _ h.g)).trans h.g, h.hc, h.c1, h.c2, h.hU, h.hK⟩
theorem cred_cells {c : Nat → Value} {o : Nat} (ho : o + 6 ≤ 655) {A : Array Value} (hA : A.size = 6) (h : ∀ i, i < 6 → A[i]? = some (c (o + i))) : (kerA c).extract o (o + 6) = A := by
  apply Array.ext_getElem?
  intro i
  rw [Array.getElem?_extract]
  by_cases hi : i < 6
  · rw [if_pos (by rw [kerA_size]; omega), h i hi]
    simp only [kerA]
    rw [Array.getElem?_ofFn, dif_pos (by omega)]
  · rw [if_neg (by rw [kerA_size]; omega), Array.getElem?_eq_none (by omega)]
section
variable {w : World} {k : KC} {s : KSt} {fc : FC} {x : FM} {p : Nat} {U K : Int} {a : Option Addr} {cap gc cc : Nat}
theorem KF.ldcr (h : KF w k s fc x) (q : Who w s p U K a cap gc cc) : (ldR 63 (.pointer (some ⟨k.K, 8 + p * 38 + 11, none⟩))).run Tryz.prog w = .ok (.agg (crA U K a cap)) w := by
  have := q.p16
  rw [Row.ld h.kt.kr (o := 8 + p * 38 + 11) (n := 6) (by rw [kerA_size]; omega) Tryz.underlying63 rfl (by kernel_rfl), cred_cells (by omega) rfl q.cr]
theorem KF.fsp (h : KF w k s fc x) : w.cell? ⟨k.K, 2, none⟩ = some (.pointer (some ⟨fc.F, 0, none⟩)) := by rw [h.kt.kr.cell (by decide), h.c2]
attribute [local go_sem ↓] ld_sta st_sta ld_crd
attribute [local go_sem] stS_new
set_option maxRecDepth 100000 in
set_option maxHeartbeats 800000 in
theorem kmay_is (h : KF w k s fc x) (q : Who w s p U K a cap gc cc) {i : Nat} (hi : i < 32) {n : Int} (hn : n = i + 1) (hk : ¬ (x.nd i).k = 0) {W : Int} {ok : Bool}
    (hM : ∀ w, Calls Tryz.prog 175 #[.agg (stA (x.nd i)), .agg (crA U K a cap), .int .i64 W] w fun e w' => e = .returned (.tuple #[.bool ok, .int .i64 0]) ∧ Below w.heap.size w w') :
    Calls Tryz.prog 100 #[.pointer (some ⟨k.K, 0, none⟩), .int .i64 p, .int .i64 n, .int .i64 W] w fun e w' => e = .returned (.int .i64 (bif ok then 0 else 7)) ∧ Below w.heap.size w w' := by
  have c2 := h.fsp
  have HST := Lib.hid (statF_is h.fs hi hn hk)
  have HLC := Lib.hid (fun wx (hb : Below w.heap.size w wx) => (h.keep hb).ldcr (q.keep hb))
  have HM := Lib.hid hM
  have i17 : (p : Int) < 17 := by have := q.p16; omega
  clear h q hM hi hn hk
  generalize x.nd i = nd at *
  cases ok
  all_goals
    dsimp only [cond_true, cond_false]
    go_enter Tryz.func100, Tryz.ntmps100
    go_upto_region 2 with (go_at_call 166; (with_reducible refine HST.out.mono ?_); rintro e1 w1 ⟨rfl, hb1⟩)
    have HB2 := Lib.hid (hb1.alloc hb1.size (.cells (stA nd) 35))
    have HR2 := Lib.hid (row_new w1 35 (stA nd))
    clear hb1 c2
    generalize hb9 : w1.heap.size = b9 at *
    generalize w1.alloc (.cells (stA nd) 35) = w2 at *
    clear hb9
    have HL : Hid (∀ wx, Below w2.heap.size w2 wx → ((ldR 35 (.pointer (some ⟨b9, 0, none⟩))).run Tryz.prog wx = .ok (.agg (stA nd)) wx ∧ (ldR 63 (.pointer (some ⟨k.K, 8 + p * 38 + 11, none⟩))).run Tryz.prog wx = .ok (.agg (crA U K a cap)) wx)) := Lib.hid (fun wx hb => ⟨(HR2.out.keep hb).ld0 Tryz.underlying35 rfl (by unfold stA; kernel_rfl), HLC.out _ (HB2.out.trans (hb.mono HB2.out.size))⟩)
    go_upto_region 4 with fail
    go_region_held3 (fun wx => (ldR 35 (.pointer (some ⟨b9, 0, none⟩))).run Tryz.prog wx = .ok (.agg (stA nd)) wx ∧ (ldR 63 (.pointer (some ⟨k.K, 8 + p * 38 + 11, none⟩))).run Tryz.prog wx = .ok (.agg (crA U K a cap)) wx) (first | (with_reducible exact HL.out _ (Below.refl _ _)) | (with_reducible exact HL.out _ (Below.refl _ _).drew) | (with_reducible exact HL.out _ HB3.out) | fail)
          (first | (go_at_call 175; (with_reducible refine (HM.out _).mono ?_); rintro e3 w3 ⟨rfl, hb3⟩; have HB3 := Lib.hid ((Below.refl w2.heap.size w2).drew.trans hb3); clear hb3) | fail)
    go_wp2_with fail
    go_ret
    exact ⟨rfl, HB2.out.trans (HB3.out.mono HB2.out.size)⟩
set_option maxRecDepth 100000 in
set_option maxHeartbeats 800000 in
theorem klast_is (h : KF w k s fc x) (q : Who w s p U K a cap gc cc) (hk : (x.nd 0).k = 2)
    (hM : ∀ w, Calls Tryz.prog 175 #[.agg (stA (x.nd 0)), .agg (crA U K a cap), .int .i64 4] w fun e w' => e = .returned (.tuple #[.bool true, .int .i64 0]) ∧ Below w.heap.size w w')
    (hM2 : ∀ w, Calls Tryz.prog 175 #[.agg (stA (x.nd 0)), .agg (crA U K a cap), .int .i64 2] w fun e w' => e = .returned (.tuple #[.bool true, .int .i64 0]) ∧ Below w.heap.size w w') :
    Calls Tryz.prog 168 #[.pointer (some ⟨k.K, 0, none⟩), .int .i64 p, .string ⟨#[102]⟩] w fun e w' => e = .returned (.tuple #[.int .i64 1, .string ⟨#[102]⟩, .int .i64 0]) ∧ Below w.heap.size w w' := by
  have HPL := Lib.hid (fun wx (hb : Below w.heap.size w wx) => pLast_is (h.keep hb).fs hk q.hU q.hK q.hc (q.keep hb).g q.c1 q.c2 hM)
  have HMY := Lib.hid (fun wx (hb : Below w.heap.size w wx) => kmay_is (h.keep hb) (q.keep hb) (i := 0) (by decide) (n := 1) rfl (by rw [hk]; decide) hM2)
  have HL : Hid (∀ wx, Below w.heap.size w wx → (wx.cell? ⟨k.K, 2, none⟩ = some (.pointer (some ⟨fc.F, 0, none⟩)) ∧ wx.cell? ⟨k.K, 8 + p * 38 + 18, none⟩ = some (.slice none 0 0) ∧ (ldR 63 (.pointer (some ⟨k.K, 8 + p * 38 + 11, none⟩))).run Tryz.prog wx = .ok (.agg (crA U K a cap)) wx ∧ wx.cell? ⟨k.K, 8 + p * 38 + 17, none⟩ = some (.slice (some ⟨gc, 0, none⟩) 1 cc))) := Lib.hid (fun wx hb => ⟨(h.keep hb).fsp, by rw [(h.keep hb).kt.kr.cell (by have := q.p16; omega), q.mt], (h.keep hb).ldcr (q.keep hb), by rw [(h.keep hb).kt.kr.cell (by have := q.p16; omega), q.wd]⟩)
  have i17 : (p : Int) < 17 := by have := q.p16; omega
  clear h q hM hM2 hk
  go_enter Tryz.func168, Tryz.ntmps168
  go_upto_region 2 with fail
  go_region_held3 (fun wx => wx.cell? ⟨k.K, 2, none⟩ = some (.pointer (some ⟨fc.F, 0, none⟩)) ∧ wx.cell? ⟨k.K, 8 + p * 38 + 18, none⟩ = some (.slice none 0 0) ∧ (ldR 63 (.pointer (some ⟨k.K, 8 + p * 38 + 11, none⟩))).run Tryz.prog wx = .ok (.agg (crA U K a cap)) wx ∧ wx.cell? ⟨k.K, 8 + p * 38 + 17, none⟩ = some (.slice (some ⟨gc, 0, none⟩) 1 cc)) (first | (with_reducible exact HL.out _ (Below.refl _ _)) | (with_reducible exact HL.out _ (Below.refl _ _).drew) | (with_reducible exact HL.out _ HB1.out) | fail)
          (first | (go_at_call 238; (with_reducible refine (HPL.out _ (Below.refl _ _).drew).mono ?_); rintro e1 w1 ⟨g1, c1, rfl, y1, q1, q2, hb1⟩; have HB1 := Lib.hid ((Below.refl w.heap.size w).drew.trans hb1); clear hb1) | fail)
  have HM1 := Lib.hid (HMY.out _ HB1.out)
  have hmx : (c1 : Int) ≤ 9223372036854775807 := by unfold maxLen at q2; omega
  clear HMY HPL HL q2
  go_wp2_with (go_at_call 100; (with_reducible refine HM1.out.mono ?_); rintro e2 w2 ⟨rfl, hb2⟩)
  go_ret3
  exact ⟨rfl, HB1.out.trans (hb2.mono HB1.out.size)⟩
end
end Go.Proofs.YtcdjkheelbikjaaGreatDoor
namespace Go.Proofs.YtcdjkheelbikjaaGreatDoor
open Go.RowKit Go.Maps
set_option linter.unusedVariables false
set_option linter.unusedSimpArgs false
theorem results_tct {fn : Func} {t p u : Tmp} {ty : TypeId} (h : fn.results = #[.tmp t, .cell p ty, .tmp u]) (tmps : Array Value) (P : Program) (w : World) :
    (results fn tmps).run P w = ((asAddr (tmps.getD p undef)).run P w).andThen fun a w1 => ((loadVar ty a).run P w1).andThen fun v w2 => .ok (.tuple #[tmps.getD t undef, v, tmps.getD u undef]) w2 := by
  unfold results
  rw [h]
  simp
theorem bd_sta (ps : Array (Nat × Value)) : Instr.build 35 ps = bdR 35 ps := rfl
theorem bd_sta_run (w : World) : (bdR 35 #[]).run Tryz.prog w = .ok (.agg (stA nd0)) w := by kernel_rfl
theorem Row.stS' {w : World} {b : Nat} {n n' : Nd} (h : Row w b 35 (stA n)) : (stR 35 (.pointer (some ⟨b, 0, none⟩)) (.agg (stA n'))).run Tryz.prog w = .ok () (w.setRow b (stA n')) := h.st0 rfl (by kernel_rfl) (by simp [stA, Value.oneCell'])
theorem Row.ldVS {w : World} {b : Nat} {n : Nd} (h : Row w b 35 (stA n)) : (loadVar 35 ⟨b, 0, none⟩).run Tryz.prog w = .ok (.agg (stA n)) w := h.ldV Tryz.underlying35 rfl (by unfold stA; kernel_rfl)
theorem Row.ldS {w : World} {b : Nat} {n : Nd} (h : Row w b 35 (stA n)) : (ldR 35 (.pointer (some ⟨b, 0, none⟩))).run Tryz.prog w = .ok (.agg (stA n)) w := h.ld0 Tryz.underlying35 rfl (by unfold stA; kernel_rfl)
section
variable {w : World} {k : KC} {s : KSt} {fc : FC} {x : FM} {p : Nat} {U K : Int} {a : Option Addr} {cap gc cc : Nat}
attribute [local go_sem ↓] ld_sta st_sta ld_crd bd_sta
attribute [local go_sem] stS_new
set_option maxRecDepth 100000 in
set_option maxHeartbeats 800000 in
theorem kwalkN_is (h : KF w k s fc x) (q : Who w s p U K a cap gc cc) (hk : (x.nd 0).k = 2) (hp : (x.nd 0).ps = []) (hs : (x.nd 0).sz = 0)
    (hM : ∀ w, Calls Tryz.prog 175 #[.agg (stA (x.nd 0)), .agg (crA U K a cap), .int .i64 4] w fun e w' => e = .returned (.tuple #[.bool true, .int .i64 0]) ∧ Below w.heap.size w w') :
    Calls Tryz.prog 94 #[.pointer (some ⟨k.K, 0, none⟩), .int .i64 p, .string ⟨#[102]⟩] w fun e w' => e = .returned (.tuple #[.slice none 0 0, .agg (stA nd0), .int .i64 4]) ∧ Below w.heap.size w w' := by
  have HB0 := Lib.hid (Go.Joins.below_alloc1 w (.cells #[.int .i64 0, .int .i64 0, .int .i64 0, .int .i64 0, .int .i64 0, .int .i64 0] 35))
  have HR0 : Hid (Row (w.alloc (.cells #[.int .i64 0, .int .i64 0, .int .i64 0, .int .i64 0, .int .i64 0, .int .i64 0] 35)) w.heap.size 35 (stA nd0)) := Lib.hid (row_new w 35 (stA nd0))
  have HPW := Lib.hid (fun wx (hb : Below w.heap.size w wx) => pWalkN_is (h.keep hb).fs hk hp hs q.hU q.hK q.hc (q.keep hb).g q.c1 q.c2 hM)
  have HL : Hid (∀ wx, Below w.heap.size w wx → (wx.cell? ⟨k.K, 2, none⟩ = some (.pointer (some ⟨fc.F, 0, none⟩)) ∧ wx.cell? ⟨k.K, 8 + p * 38 + 18, none⟩ = some (.slice none 0 0) ∧ (ldR 63 (.pointer (some ⟨k.K, 8 + p * 38 + 11, none⟩))).run Tryz.prog wx = .ok (.agg (crA U K a cap)) wx ∧ wx.cell? ⟨k.K, 8 + p * 38 + 17, none⟩ = some (.slice (some ⟨gc, 0, none⟩) 1 cc))) := Lib.hid (fun wx hb => ⟨(h.keep hb).fsp, by rw [(h.keep hb).kt.kr.cell (by have := q.p16; omega), q.mt], (h.keep hb).ldcr (q.keep hb), by rw [(h.keep hb).kt.kr.cell (by have := q.p16; omega), q.wd]⟩)
  have i17 : (p : Int) < 17 := by have := q.p16; omega
  clear h q hM hk hp hs
  go_enter Tryz.func94, Tryz.ntmps94
  go_upto_region 2 with fail
  generalize w.alloc (.cells #[.int .i64 0, .int .i64 0, .int .i64 0, .int .i64 0, .int .i64 0, .int .i64 0] 35) = w0 at *
  go_region_held3 (fun wx => wx.cell? ⟨k.K, 2, none⟩ = some (.pointer (some ⟨fc.F, 0, none⟩)) ∧ wx.cell? ⟨k.K, 8 + p * 38 + 18, none⟩ = some (.slice none 0 0) ∧ (ldR 63 (.pointer (some ⟨k.K, 8 + p * 38 + 11, none⟩))).run Tryz.prog wx = .ok (.agg (crA U K a cap)) wx ∧ wx.cell? ⟨k.K, 8 + p * 38 + 17, none⟩ = some (.slice (some ⟨gc, 0, none⟩) 1 cc)) (first | (with_reducible exact HL.out _ HB0.out) | (with_reducible exact HL.out _ HB0.out.drew) | (with_reducible exact HL.out _ HB1.out) | fail)
          (first | (go_at_call 174; (with_reducible refine (HPW.out _ HB0.out.drew).mono ?_); rintro e1 w1 ⟨rfl, hb1⟩; have HB1 := Lib.hid (HB0.out.drew.trans (hb1.mono HB0.out.drew.size)); have HR1 := Lib.hid (HR0.out.drew.keep hb1); clear hb1) | fail)
  have st1 := Row.stS' (n' := nd0) HR1.out
  have lv1 := (HR1.out.setRow (stA nd0)).ldVS
  have hbd := bd_sta_run
  clear HPW HL
  generalize hZ : stA nd0 = Z at hbd st1 lv1 ⊢
  have HZ := Lib.hid hZ
  clear hZ
  go_wp2_with fail
  exact bodyPost_ret (v := .tuple #[.slice none 0 0, .agg Z, .int .i64 4]) (by rw [results_tct rfl]; simp [asAddr, Result.andThen, lv1]) rfl ⟨by rw [HZ.out], HB1.out.trans ((Upd.setRow (S := fun j => j = w.heap.size) w1 Z rfl).toBelow HB1.out.size (fun k hk e => by have e : k = w.heap.size := e; omega))⟩
set_option maxRecDepth 100000 in
set_option maxHeartbeats 1000000 in
theorem kwalkF_is (h : KF w k s fc x) (q : Who w s p U K a cap gc cc) (hk : (x.nd 0).k = 2) {q0 : Nat} (hp : (x.nd 0).ps = [(q0 : Int)]) (hp0 : q0 ≠ 0) (hp1 : q0 < 256) (hs : (x.nd 0).sz = 16) (hf : (fsec x q0).take 16 = entL) (hk1 : (x.nd 1).k = 1)
    (hM : ∀ w, Calls Tryz.prog 175 #[.agg (stA (x.nd 0)), .agg (crA U K a cap), .int .i64 4] w fun e w' => e = .returned (.tuple #[.bool true, .int .i64 0]) ∧ Below w.heap.size w w') :
    Calls Tryz.prog 94 #[.pointer (some ⟨k.K, 0, none⟩), .int .i64 p, .string ⟨#[102]⟩] w fun e w' => ∃ g cg, e = .returned (.tuple #[.slice (some ⟨g, 0, none⟩) 2 cg, .agg (stA (x.nd 1)), .int .i64 0]) ∧ w'.cell? ⟨g, 1, none⟩ = some (.int .i64 2) ∧ 2 ≤ cg ∧ cg ≤ maxLen ∧ Below w.heap.size w w' := by
  have HB0 := Lib.hid (Go.Joins.below_alloc1 w (.cells #[.int .i64 0, .int .i64 0, .int .i64 0, .int .i64 0, .int .i64 0, .int .i64 0] 35))
  have HR0 : Hid (Row (w.alloc (.cells #[.int .i64 0, .int .i64 0, .int .i64 0, .int .i64 0, .int .i64 0, .int .i64 0] 35)) w.heap.size 35 (stA nd0)) := Lib.hid (row_new w 35 (stA nd0))
  have HPW := Lib.hid (fun wx (hb : Below w.heap.size w wx) => pWalkF_is (h.keep hb).fs hk hp hp0 hp1 hs hf hk1 q.hU q.hK q.hc (q.keep hb).g q.c1 q.c2 hM)
  have HL : Hid (∀ wx, Below w.heap.size w wx → (wx.cell? ⟨k.K, 2, none⟩ = some (.pointer (some ⟨fc.F, 0, none⟩)) ∧ wx.cell? ⟨k.K, 8 + p * 38 + 18, none⟩ = some (.slice none 0 0) ∧ (ldR 63 (.pointer (some ⟨k.K, 8 + p * 38 + 11, none⟩))).run Tryz.prog wx = .ok (.agg (crA U K a cap)) wx ∧ wx.cell? ⟨k.K, 8 + p * 38 + 17, none⟩ = some (.slice (some ⟨gc, 0, none⟩) 1 cc))) := Lib.hid (fun wx hb => ⟨(h.keep hb).fsp, by rw [(h.keep hb).kt.kr.cell (by have := q.p16; omega), q.mt], (h.keep hb).ldcr (q.keep hb), by rw [(h.keep hb).kt.kr.cell (by have := q.p16; omega), q.wd]⟩)
  have HST := Lib.hid (fun wx (hb : Below w.heap.size w wx) => statF_is (h.keep hb).fs (i := 1) (by decide) (n := 2) rfl (by rw [hk1]; decide))
  have i17 : (p : Int) < 17 := by have := q.p16; omega
  clear h q hM hk hp hs hp0 hp1 hf hk1
  generalize x.nd 1 = nd at *
  go_enter Tryz.func94, Tryz.ntmps94
  go_upto_region 2 with fail
  generalize w.alloc (.cells #[.int .i64 0, .int .i64 0, .int .i64 0, .int .i64 0, .int .i64 0, .int .i64 0] 35) = w0 at *
  go_region_held3 (fun wx => wx.cell? ⟨k.K, 2, none⟩ = some (.pointer (some ⟨fc.F, 0, none⟩)) ∧ wx.cell? ⟨k.K, 8 + p * 38 + 18, none⟩ = some (.slice none 0 0) ∧ (ldR 63 (.pointer (some ⟨k.K, 8 + p * 38 + 11, none⟩))).run Tryz.prog wx = .ok (.agg (crA U K a cap)) wx ∧ wx.cell? ⟨k.K, 8 + p * 38 + 17, none⟩ = some (.slice (some ⟨gc, 0, none⟩) 1 cc)) (first | (with_reducible exact HL.out _ HB0.out) | (with_reducible exact HL.out _ HB0.out.drew) | (with_reducible exact HL.out _ HB1.out) | fail)
          (first | (go_at_call 174; (with_reducible refine (HPW.out _ HB0.out.drew).mono ?_); rintro e1 w1 ⟨g1, c1, rfl, y1, q1, q2, hb1⟩; have HB1 := Lib.hid (HB0.out.drew.trans (hb1.mono HB0.out.drew.size)); have HR1 := Lib.hid (HR0.out.drew.keep hb1); clear hb1) | fail)
  have hmx : (c1 : Int) ≤ 9223372036854775807 := by unfold maxLen at q2; omega
  have hm2 : (2 : Int) ≤ (c1 : Int) := by omega
  have HQ := Lib.hid (And.intro q1 q2)
  have hg1 : g1 < w1.heap.size := World.block_lt_of_cell? w1 _ y1
  have a2 := (HL.out _ HB1.out).1
  have HZ2 := Lib.hid (fun k => (row_new w1 35 (#[.int .i64 0, .int .i64 0, .int .i64 0, .int .i64 0, .int .i64 0, .int .i64 0] : Array Value)).keep (below_drewN (Below.refl _ _) k))
  have HBO : Hid (∀ wx, Below w1.heap.size w1 wx → (Below w1.heap.size w1 wx ∧ wx.cell? ⟨k.K, 2, none⟩ = some (.pointer (some ⟨fc.F, 0, none⟩)) ∧ wx.cell? ⟨g1, 1, none⟩ = some (.int .i64 2))) := Lib.hid (fun wx hb => ⟨hb, (HL.out _ (HB1.out.trans (hb.mono HB1.out.size))).1, (hb.cell (p := ⟨g1, 1, none⟩) hg1).trans y1⟩)
  have HS1 : Hid (∀ wx, Below w1.heap.size w1 wx → Calls Tryz.prog 166 #[.pointer (some ⟨fc.F, 0, none⟩), .int .i64 2] wx fun e w' => e = .returned (.tuple #[.agg (stA nd), .int .i64 0]) ∧ Below wx.heap.size wx w') := Lib.hid (fun wx hb => HST.out _ (HB1.out.trans (hb.mono HB1.out.size)))
  have HZ3 := Lib.hid (fun (wx : World) (hb : Below (w1.drew.alloc (.cells #[.int .i64 0, .int .i64 0, .int .i64 0, .int .i64 0, .int .i64 0, .int .i64 0] 35)).heap.size (w1.drew.alloc (.cells #[.int .i64 0, .int .i64 0, .int .i64 0, .int .i64 0, .int .i64 0, .int .i64 0] 35)) wx) => (show Row wx w1.heap.size 35 (#[.int .i64 0, .int .i64 0, .int .i64 0, .int .i64 0, .int .i64 0, .int .i64 0] : Array Value) from (row_new w1.drew 35 (#[.int .i64 0, .int .i64 0, .int .i64 0, .int .i64 0, .int .i64 0, .int .i64 0] : Array Value)).keep hb))
  have HZ4 := Lib.hid (fun (wx : World) (hb : Below (w1.alloc (.cells #[.int .i64 0, .int .i64 0, .int .i64 0, .int .i64 0, .int .i64 0, .int .i64 0] 35)).drew.heap.size (w1.alloc (.cells #[.int .i64 0, .int .i64 0, .int .i64 0, .int .i64 0, .int .i64 0, .int .i64 0] 35)).drew wx) => (row_new w1 35 (#[.int .i64 0, .int .i64 0, .int .i64 0, .int .i64 0, .int .i64 0, .int .i64 0] : Array Value)).drew.keep hb)
  have HZ5 := Lib.hid (fun (wx : World) (hb : Below (w1.alloc (.cells #[.int .i64 0, .int .i64 0, .int .i64 0, .int .i64 0, .int .i64 0, .int .i64 0] 35)).heap.size (w1.alloc (.cells #[.int .i64 0, .int .i64 0, .int .i64 0, .int .i64 0, .int .i64 0, .int .i64 0] 35)) wx) => (row_new w1 35 (#[.int .i64 0, .int .i64 0, .int .i64 0, .int .i64 0, .int .i64 0, .int .i64 0] : Array Value)).keep hb)
  clear HPW HL HST y1 q1 q2 hg1
  have yw : IntKind.i64.wrap 1 = 1 := by decide
  go_upto_region 5 with fail
  go_cut [11, 12] (fun s3 s4 wx => s3 = .int .i64 0 ∧ ∃ b9, s4 = .pointer (some ⟨b9, 0, none⟩) ∧ w1.heap.size ≤ b9 ∧ Below w1.heap.size w1 wx ∧ Row wx b9 35 (stA nd) ∧ wx.cell? ⟨g1, 1, none⟩ = some (.int .i64 2))
  case first =>
    go_region_held3 (fun wx => Below w1.heap.size w1 wx ∧ wx.cell? ⟨k.K, 2, none⟩ = some (.pointer (some ⟨fc.F, 0, none⟩)) ∧ wx.cell? ⟨g1, 1, none⟩ = some (.int .i64 2)) (first | assumption | (with_reducible exact HBO.out _ (Below.refl _ _)) | (with_reducible exact HBO.out _ (Below.refl _ _).drew) | (with_reducible exact HBO.out _ (below_drewN (And.left ‹_›) _)) | (with_reducible exact HBO.out _ (below_setRow (And.left ‹_›) (Nat.le_refl _) _)) | (with_reducible exact HBO.out _ (Below.alloc (And.left ‹_›) (Below.size (And.left ‹_›)) _)) | go_keep)
      (first | (go_at_call 166; refine (HS1.out _ (‹Below w1.heap.size w1 _ ∧ _›).1).mono ?_; rintro e9 w9 ⟨rfl, hb9⟩; have hS := HBO.out _ ((‹Below w1.heap.size w1 _ ∧ _›).1.trans (hb9.mono (‹Below w1.heap.size w1 _ ∧ _›).1.size)); first | have hst := (HZ3.out _ hb9).stS nd | have hst := (HZ4.out _ hb9).stS nd | have hst := (HZ5.out _ hb9).stS nd | skip))
    all_goals go_wp2
    all_goals go_meet
    all_goals first
      | exact ⟨rfl, _, rfl, hS.1.size, hS.1.alloc hS.1.size _, row_new _ _ _, (HBO.out _ (hS.1.alloc hS.1.size _)).2.2⟩
      | exact ⟨rfl, _, rfl, Nat.le_refl _, below_setRow hS.1 (Nat.le_refl _) _, ((HZ3.out _ hb9)).setRow _, (HBO.out _ (below_setRow hS.1 (Nat.le_refl _) _)).2.2⟩
      | exact ⟨rfl, _, rfl, Nat.le_refl _, below_setRow hS.1 (Nat.le_refl _) _, ((HZ4.out _ hb9)).setRow _, (HBO.out _ (below_setRow hS.1 (Nat.le_refl _) _)).2.2⟩
      | exact ⟨rfl, _, rfl, Nat.le_refl _, below_setRow hS.1 (Nat.le_refl _) _, ((HZ5.out _ hb9)).setRow _, (HBO.out _ (below_setRow hS.1 (Nat.le_refl _) _)).2.2⟩
  case rest =>
    obtain ⟨rfl, b9, rfl, hbl, hbc, hr9, y1⟩ := hcut
    have l9 := hr9.drew.ldS
    have HBC := Lib.hid (HB1.out.trans (hbc.drew.mono HB1.out.size))
    have hlt : w.heap.size < w1.heap.size := HR1.out.lt
    have hr0 := (HR1.out.keep hbc).drew
    have st9 := Row.stS' (n' := nd) hr0
    have lv9 := (hr0.setRow (stA nd)).ldVS
    have hne : g1 ≠ w.heap.size := fun e => by
      have z : wc.cell? ⟨w.heap.size, 1, none⟩ = some (.int .i64 0) := (HR1.out.keep hbc).cell 1
      rw [← e, y1] at z
      injection z with z
      injection z with _ z
      exact absurd z (by decide)
    have HG := Lib.hid (show (wc.drew.setRow w.heap.size (stA nd)).cell? ⟨g1, 1, none⟩ = some (.int .i64 2) from ((Upd.setRow (S := fun j => j = w.heap.size) wc.drew (stA nd) rfl).cell (World.block_lt_of_cell? wc _ y1) hne).trans y1)
    clear hbl hbc hr9 y1 hr0 hne HZ2 HZ3 HZ4 HZ5 HBO HS1
    generalize hZ : stA nd = Z at l9 st9 lv9 HG ⊢
    have HZ := Lib.hid hZ
    clear hZ
    go_upto_region 6 with fail
    go_region
    all_goals
      go_wp2_with fail
      exact bodyPost_ret (v := .tuple #[.slice (some ⟨g1, 0, none⟩) 2 c1, .agg Z, .int .i64 0]) (by rw [results_tct rfl]; simp [asAddr, Result.andThen, lv9]) rfl ⟨g1, c1, by rw [HZ.out], HG.out, HQ.out.1, HQ.out.2, HBC.out.trans ((Upd.setRow (S := fun j => j = w.heap.size) wc.drew Z rfl).toBelow HBC.out.size (fun k hk e => by have e : k = w.heap.size := e; omega))⟩
end
end Go.Proofs.YtcdjkheelbikjaaGreatDoor
