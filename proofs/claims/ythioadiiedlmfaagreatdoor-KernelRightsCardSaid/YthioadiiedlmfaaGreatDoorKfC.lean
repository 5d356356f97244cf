/- The kernel with its file system as one state; the walks of kernel.may and kernel.last. The walks of kernel.walk at "f". The walks of kernel.opened. -/
import Derived.Test.YthioadiiedlmfaaGreatDoorFsA
import Derived.Test.YthioadiiedlmfaaGreatDoorMnt2
import Derived.Test.YthioadiiedlmfaaGreatDoorFsZ
namespace Go.Proofs.YthioadiiedlmfaaGreatDoor
open Go.RowKit Go.Maps
set_option linter.unusedVariables false
set_option linter.unusedSimpArgs false
/-- the kernel with its file system: whose blocks bear no tag -/
structure KF (w : World) (k : KC) (s : KSt) (fc : FC) (x : FM) : Prop where
  kt : KT w k s
  c2 : s.c 2 = .pointer (some ⟨fc.F, 0, none⟩)
  fs : FSt w fc x
  sep : ∀ j, x.bs j → s.tag j = 0
theorem KF.keep {w w' : World} {k : KC} {s : KSt} {fc : FC} {x : FM} (h : KF w k s fc x) (hb : Below w.heap.size w w') : KF w' k s fc x := ⟨h.kt.keep hb, h.c2, h.fs.keep hb, h.sep⟩
/-- a task's cred and directory -/
structure Who (w : World) (s : KSt) (p : Nat) (U K : Int) (a : Option Addr) (cap gc cc : Nat) : Prop where
  p16 : p ≤ 16
  cr : ∀ i, i < 6 → (crA U K a cap)[i]? = some (s.c (8 + p * 38 + 11 + i))
  wd : s.c (8 + p * 38 + 17) = .slice (some ⟨gc, 0, none⟩) 1 cc
  mt : s.c (8 + p * 38 + 18) = .slice none 0 0
  g : w.cell? ⟨gc, 0, none⟩ = some (.int .i64 1)
  hc : cap ≤ maxLen
  c1 : 1 ≤ cc
  c2 : cc ≤ maxLen
  hU : 0 ≤ U ∧ U ≤ 99
  hK : 0 ≤ K ∧ K ≤ 127
theorem Who.keep {w w' : World} {s : KSt} {p : Nat} {U K : Int} {a : Option Addr} {cap gc cc : Nat} (h : Who w s p U K a cap gc cc) (hb : Below w.heap.size w w') : Who w' s p U K a cap gc cc := ⟨h.p16, h.cr, h.wd, h.mt, (hb.cell (p := ⟨gc, 0, none⟩) (World.block_lt_of_cell? w _ h.g)).trans h.g, h.hc, h.c1, h.c2, h.hU, h.hK⟩
theorem cred_cells {c : Nat → Value} {o : Nat} (ho : o + 6 ≤ 655) {A : Array Value} (hA : A.size = 6) (h : ∀ i, i < 6 → A[i]? = some (c (o + i))) : (kerA c).extract o (o + 6) = A := by
  apply Array.ext_getElem?
  intro i
  rw [Array.getElem?_extract]
  by_cases hi : i < 6
  · rw [if_pos (by rw [kerA_size]; omega), h i hi]
    simp only [kerA]
    rw [Array.getElem?_ofFn, dif_pos (by omega)]
  · rw [if_neg (by rw [kerA_size]; omega), Array.getElem?_eq_none (by omega)]
section
variable {w : World} {k : KC} {s : KSt} {fc : FC} {x : FM} {p : Nat} {U K : Int} {a : Option Addr} {cap gc cc : Nat}
theorem KF.ldcr (h : KF w k s fc x) (q : Who w s p U K a cap gc cc) : (ldR 53 (.pointer (some ⟨k.K, 8 + p * 38 + 11, none⟩))).run Tryz.prog w = .ok (.agg (crA U K a cap)) w := by
  have := q.p16
  rw [Row.ld h.kt.kr (o := 8 + p * 38 + 11) (n := 6) (by rw [kerA_size]; omega) Tryz.underlying53 rfl (by kernel_rfl), cred_cells (by omega) rfl q.cr]
theorem KF.fsp (h : KF w k s fc x) : w.cell? ⟨k.K, 2, none⟩ = some (.pointer (some ⟨fc.F, 0, none⟩)) := by rw [h.kt.kr.cell (by decide), h.c2]
attribute [local go_sem ↓] ld_sta st_sta ld_crd
attribute [local go_sem] stS_new
set_option maxRecDepth 100000 in
set_option maxHeartbeats 800000 in
theorem kmay_is (h : KF w k s fc x) (q : Who w s p U K a cap gc cc) {i : Nat} (hi : i < 32) {n : Int} (hn : n = i + 1) (hk : ¬ (x.nd i).k = 0) {W : Int} {ok : Bool}
    (hM : ∀ w, Calls Tryz.prog 168 #[.agg (stA (x.nd i)), .agg (crA U K a cap), .int .i64 W] w fun e w' => e = .returned (.tuple #[.bool ok, .int .i64 0]) ∧ Below w.heap.size w w') :
    Calls Tryz.prog 92 #[.pointer (some ⟨k.K, 0, none⟩), .int .i64 p, .int .i64 n, .int .i64 W] w fun e w' => e = .returned (.int .i64 (bif ok then 0 else 7)) ∧ Below w.heap.size w w' := by
  have c2 := h.fsp
  have HST := Lib.hid (statF_is h.fs hi hn hk)
  have HLC := Lib.hid (fun wx (hb : Below w.heap.size w wx) => (h.keep hb).ldcr (q.keep hb))
  have HM := Lib.hid hM
  have i17 : (p : Int) < 17 := by have := q.p16; omega
  clear h q hM hi hn hk
  generalize x.nd i = nd at *
  cases ok
  all_goals
    dsimp only [cond_true, cond_false]
    go_enter Tryz.func92, Tryz.ntmps92
    go_upto_region 2 with (go_at_call 159; (with_reducible refine HST.out.mono ?_); rintro e1 w1 ⟨rfl, hb1⟩)
    have HB2 := Lib.hid (hb1.alloc hb1.size (.cells (stA nd) 31))
    have HR2 := Lib.hid (row_new w1 31 (stA nd))
    clear hb1 c2
    generalize hb9 : w1.heap.size = b9 at *
    generalize w1.alloc (.cells (stA nd) 31) = w2 at *
    clear hb9
    have HL : Hid (∀ wx, Below w2.heap.size w2 wx → ((ldR 31 (.pointer (some ⟨b9, 0, none⟩))).run Tryz.prog wx = .ok (.agg (stA nd)) wx ∧ (ldR 53 (.pointer (some ⟨k.K, 8 + p * 38 + 11, none⟩))).run Tryz.prog wx = .ok (.agg (crA U K a cap)) wx)) := Lib.hid (fun wx hb => ⟨(HR2.out.keep hb).ld0 Tryz.underlying31 rfl (by unfold stA; kernel_rfl), HLC.out _ (HB2.out.trans (hb.mono HB2.out.size))⟩)
    go_upto_region 4 with fail
    go_region_held3 (fun wx => (ldR 31 (.pointer (some ⟨b9, 0, none⟩))).run Tryz.prog wx = .ok (.agg (stA nd)) wx ∧ (ldR 53 (.pointer (some ⟨k.K, 8 + p * 38 + 11, none⟩))).run Tryz.prog wx = .ok (.agg (crA U K a cap)) wx) (first | (with_reducible exact HL.out _ (Below.refl _ _)) | (with_reducible exact HL.out _ (Below.refl _ _).drew) | (with_reducible exact HL.out _ HB3.out) | fail)
          (first | (go_at_call 168; (with_reducible refine (HM.out _).mono ?_); rintro e3 w3 ⟨rfl, hb3⟩; have HB3 := Lib.hid ((Below.refl w2.heap.size w2).drew.trans hb3); clear hb3) | fail)
    go_wp2_with fail
    go_ret
    exact ⟨rfl, HB2.out.trans (HB3.out.mono HB2.out.size)⟩
set_option maxRecDepth 100000 in
set_option maxHeartbeats 800000 in
theorem klast_is (h : KF w k s fc x) (q : Who w s p U K a cap gc cc) (hk : (x.nd 0).k = 2)
    (hM : ∀ w, Calls Tryz.prog 168 #[.agg (stA (x.nd 0)), .agg (crA U K a cap), .int .i64 4] w fun e w' => e = .returned (.tuple #[.bool true, .int .i64 0]) ∧ Below w.heap.size w w')
    (hM2 : ∀ w, Calls Tryz.prog 168 #[.agg (stA (x.nd 0)), .agg (crA U K a cap), .int .i64 2] w fun e w' => e = .returned (.tuple #[.bool true, .int .i64 0]) ∧ Below w.heap.size w w') :
    Calls Tryz.prog 161 #[.pointer (some ⟨k.K, 0, none⟩), .int .i64 p, .string ⟨#[102]⟩] w fun e w' => e = .returned (.tuple #[.int .i64 1, .string ⟨#[102]⟩, .int .i64 0]) ∧ Below w.heap.size w w' := by
  have HPL := Lib.hid (fun wx (hb : Below w.heap.size w wx) => pLast_is (h.keep hb).fs hk q.hU q.hK q.hc (q.keep hb).g q.c1 q.c2 hM)
  have HMY := Lib.hid (fun wx (hb : Below w.heap.size w wx) => kmay_is (h.keep hb) (q.keep hb) (i := 0) (by decide) (n := 1) rfl (by rw [hk]; decide) hM2)
  have HL : Hid (∀ wx, Below w.heap.size w wx → (wx.cell? ⟨k.K, 2, none⟩ = some (.pointer (some ⟨fc.F, 0, none⟩)) ∧ wx.cell? ⟨k.K, 8 + p * 38 + 18, none⟩ = some (.slice none 0 0) ∧ (ldR 53 (.pointer (some ⟨k.K, 8 + p * 38 + 11, none⟩))).run Tryz.prog wx = .ok (.agg (crA U K a cap)) wx ∧ wx.cell? ⟨k.K, 8 + p * 38 + 17, none⟩ = some (.slice (some ⟨gc, 0, none⟩) 1 cc))) := Lib.hid (fun wx hb => ⟨(h.keep hb).fsp, by rw [(h.keep hb).kt.kr.cell (by have := q.p16; omega), q.mt], (h.keep hb).ldcr (q.keep hb), by rw [(h.keep hb).kt.kr.cell (by have := q.p16; omega), q.wd]⟩)
  have i17 : (p : Int) < 17 := by have := q.p16; omega
  clear h q hM hM2 hk
  go_enter Tryz.func161, Tryz.ntmps161
  go_upto_region 2 with fail
  go_region_held3 (fun wx => wx.cell? ⟨k.K, 2, none⟩ = some (.pointer (some ⟨fc.F, 0, none⟩)) ∧ wx.cell? ⟨k.K, 8 + p * 38 + 18, none⟩ = some (.slice none 0 0) ∧ (ldR 53 (.pointer (some ⟨k.K, 8 + p * 38 + 11, none⟩))).run Tryz.prog wx = .ok (.agg (crA U K a cap)) wx ∧ wx.cell? ⟨k.K, 8 + p * 38 + 17, none⟩ = some (.slice (some ⟨gc, 0, none⟩) 1 cc)) (first | (with_reducible exact HL.out _ (Below.refl _ _)) | (with_reducible exact HL.out _ (Below.refl _ _).drew) | (with_reducible exact HL.out _ HB1.out) | fail)
          (first | (go_at_call 231; (with_reducible refine (HPL.out _ (Below.refl _ _).drew).mono ?_); rintro e1 w1 ⟨g1, c1, rfl, y1, q1, q2, hb1⟩; have HB1 := Lib.hid ((Below.refl w.heap.size w).drew.trans hb1); clear hb1) | fail)
  have HM1 := Lib.hid (HMY.out _ HB1.out)
  have hmx : (c1 : Int) ≤ 9223372036854775807 := by unfold maxLen at q2; omega
  clear HMY HPL HL q2
  go_wp2_with (go_at_call 92; (with_reducible refine HM1.out.mono ?_); rintro e2 w2 ⟨rfl, hb2⟩)
  go_ret3
  exact ⟨rfl, HB1.out.trans (hb2.mono HB1.out.size)⟩
end
end Go.Proofs.YthioadiiedlmfaaGreatDoor
namespace Go.Proofs.YthioadiiedlmfaaGreatDoor
open Go.RowKit Go.Maps
set_option linter.unusedVariables false
set_option linter.unusedSimpArgs false
theorem results_tct {fn : Func} {t p u : Tmp} {ty : TypeId} (h : fn.results = #[.tmp t, .cell p ty, .tmp u]) (tmps : Array Value) (P : Program) (w : World) :
    (results fn tmps).run P w = ((asAddr (tmps.getD p undef)).run P w).andThen fun a w1 => ((loadVar ty a).run P w1).andThen fun v w2 => .ok (.tuple #[tmps.getD t undef, v, tmps.getD u undef]) w2 := by
  unfold results
  rw [h]
  simp
theorem bd_sta (ps : Array (Nat × Value)) : Instr.build 31 ps = bdR 31 ps := rfl
theorem bd_sta_run (w : World) : (bdR 31 #[]).run Tryz.prog w = .ok (.agg (stA nd0)) w := by kernel_rfl
theorem Row.stS' {w : World} {b : Nat} {n n' : Nd} (h : Row w b 31 (stA n)) : (stR 31 (.pointer (some ⟨b, 0, none⟩)) (.agg (stA n'))).run Tryz.prog w = .ok () (w.setRow b (stA n')) := h.st0 rfl (by kernel_rfl) (by simp [stA, Value.oneCell'])
theorem Row.ldVS {w : World} {b : Nat} {n : Nd} (h : Row w b 31 (stA n)) : (loadVar 31 ⟨b, 0, none⟩).run Tryz.prog w = .ok (.agg (stA n)) w := h.ldV Tryz.underlying31 rfl (by unfold stA; kernel_rfl)
theorem Row.ldS {w : World} {b : Nat} {n : Nd} (h : Row w b 31 (stA n)) : (ldR 31 (.pointer (some ⟨b, 0, none⟩))).run Tryz.prog w = .ok (.agg (stA n)) w := h.ld0 Tryz.underlying31 rfl (by unfold stA; kernel_rfl)
section
variable {w : World} {k : KC} {s : KSt} {fc : FC} {x : FM} {p : Nat} {U K : Int} {a : Option Addr} {cap gc cc : Nat}
attribute [local go_sem ↓] ld_sta st_sta ld_crd bd_sta
attribute [local go_sem] stS_new
set_option maxRecDepth 100000 in
set_option maxHeartbeats 800000 in
theorem kwalkN_is (h : KF w k s fc x) (q : Who w s p U K a cap gc cc) (hk : (x.nd 0).k = 2) (hp : (x.nd 0).ps = []) (hs : (x.nd 0).sz = 0)
    (hM : ∀ w, Calls Tryz.prog 168 #[.agg (stA (x.nd 0)), .agg (crA U K a cap), .int .i64 4] w fun e w' => e = .returned (.tuple #[.bool true, .int .i64 0]) ∧ Below w.heap.size w w') :
    Calls Tryz.prog 86 #[.pointer (some ⟨k.K, 0, none⟩), .int .i64 p, .string ⟨#[102]⟩] w fun e w' => e = .returned (.tuple #[.slice none 0 0, .agg (stA nd0), .int .i64 4]) ∧ Below w.heap.size w w' := by
  have HB0 := Lib.hid (Go.Joins.below_alloc1 w (.cells #[.int .i64 0, .int .i64 0, .int .i64 0, .int .i64 0, .int .i64 0, .int .i64 0] 31))
  have HR0 : Hid (Row (w.alloc (.cells #[.int .i64 0, .int .i64 0, .int .i64 0, .int .i64 0, .int .i64 0, .int .i64 0] 31)) w.heap.size 31 (stA nd0)) := Lib.hid (row_new w 31 (stA nd0))
  have HPW := Lib.hid (fun wx (hb : Below w.heap.size w wx) => pWalkN_is (h.keep hb).fs hk hp hs q.hU q.hK q.hc (q.keep hb).g q.c1 q.c2 hM)
  have HL : Hid (∀ wx, Below w.heap.size w wx → (wx.cell? ⟨k.K, 2, none⟩ = some (.pointer (some ⟨fc.F, 0, none⟩)) ∧ wx.cell? ⟨k.K, 8 + p * 38 + 18, none⟩ = some (.slice none 0 0) ∧ (ldR 53 (.pointer (some ⟨k.K, 8 + p * 38 + 11, none⟩))).run Tryz.prog wx = .ok (.agg (crA U K a cap)) wx ∧ wx.cell? ⟨k.K, 8 + p * 38 + 17, none⟩ = some (.slice (some ⟨gc, 0, none⟩) 1 cc))) := Lib.hid (fun wx hb => ⟨(h.keep hb).fsp, by rw [(h.keep hb).kt.kr.cell (by have := q.p16; omega), q.mt], (h.keep hb).ldcr (q.keep hb), by rw [(h.keep hb).kt.kr.cell (by have := q.p16; omega), q.wd]⟩)
  have i17 : (p : Int) < 17 := by have := q.p16; omega
  clear h q hM hk hp hs
  go_enter Tryz.func86, Tryz.ntmps86
  go_upto_region 2 with fail
  generalize w.alloc (.cells #[.int .i64 0, .int .i64 0, .int .i64 0, .int .i64 0, .int .i64 0, .int .i64 0] 31) = w0 at *
  go_region_held3 (fun wx => wx.cell? ⟨k.K, 2, none⟩ = some (.pointer (some ⟨fc.F, 0, none⟩)) ∧ wx.cell? ⟨k.K, 8 + p * 38 + 18, none⟩ = some (.slice none 0 0) ∧ (ldR 53 (.pointer (some ⟨k.K, 8 + p * 38 + 11, none⟩))).run Tryz.prog wx = .ok (.agg (crA U K a cap)) wx ∧ wx.cell? ⟨k.K, 8 + p * 38 + 17, none⟩ = some (.slice (some ⟨gc, 0, none⟩) 1 cc)) (first | (with_reducible exact HL.out _ HB0.out) | (with_reducible exact HL.out _ HB0.out.drew) | (with_reducible exact HL.out _ HB1.out) | fail)
          (first | (go_at_call 167; (with_reducible refine (HPW.out _ HB0.out.drew).mono ?_); rintro e1 w1 ⟨rfl, hb1⟩; have HB1 := Lib.hid (HB0.out.drew.trans (hb1.mono HB0.out.drew.size)); have HR1 := Lib.hid (HR0.out.drew.keep hb1); clear hb1) | fail)
  have st1 := Row.stS' (n' := nd0) HR1.out
  have lv1 := (HR1.out.setRow (stA nd0)).ldVS
  have hbd := bd_sta_run
  clear HPW HL
  generalize hZ : stA nd0 = Z at hbd st1 lv1 ⊢
  have HZ := Lib.hid hZ
  clear hZ
  go_wp2_with fail
  exact bodyPost_ret (v := .tuple #[.slice none 0 0, .agg Z, .int .i64 4]) (by rw [results_tct rfl]; simp [asAddr, Result.andThen, lv1]) rfl ⟨by rw [HZ.out], HB1.out.trans ((Upd.setRow (S := fun j => j = w.heap.size) w1 Z rfl).toBelow HB1.out.size (fun k hk e => by have e : k = w.heap.size := e; omega))⟩
set_option maxRecDepth 100000 in
set_option maxHeartbeats 1000000 in
theorem kwalkF_is (h : KF w k s fc x) (q : Who w s p U K a cap gc cc) (hk : (x.nd 0).k = 2) {q0 : Nat} (hp : (x.nd 0).ps = [(q0 : Int)]) (hp0 : q0 ≠ 0) (hp1 : q0 < 256) (hs : (x.nd 0).sz = 16) (hf : (fsec x q0).take 16 = entL) (hk1 : (x.nd 1).k = 1)
    (hM : ∀ w, Calls Tryz.prog 168 #[.agg (stA (x.nd 0)), .agg (crA U K a cap), .int .i64 4] w fun e w' => e = .returned (.tuple #[.bool true, .int .i64 0]) ∧ Below w.heap.size w w') :
    Calls Tryz.prog 86 #[.pointer (some ⟨k.K, 0, none⟩), .int .i64 p, .string ⟨#[102]⟩] w fun e w' => ∃ g cg, e = .returned (.tuple #[.slice (some ⟨g, 0, none⟩) 2 cg, .agg (stA (x.nd 1)), .int .i64 0]) ∧ w'.cell? ⟨g, 1, none⟩ = some (.int .i64 2) ∧ 2 ≤ cg ∧ cg ≤ maxLen ∧ Below w.heap.size w w' := by
  have HB0 := Lib.hid (Go.Joins.below_alloc1 w (.cells #[.int .i64 0, .int .i64 0, .int .i64 0, .int .i64 0, .int .i64 0, .int .i64 0] 31))
  have HR0 : Hid (Row (w.alloc (.cells #[.int .i64 0, .int .i64 0, .int .i64 0, .int .i64 0, .int .i64 0, .int .i64 0] 31)) w.heap.size 31 (stA nd0)) := Lib.hid (row_new w 31 (stA nd0))
  have HPW := Lib.hid (fun wx (hb : Below w.heap.size w wx) => pWalkF_is (h.keep hb).fs hk hp hp0 hp1 hs hf hk1 q.hU q.hK q.hc (q.keep hb).g q.c1 q.c2 hM)
  have HL : Hid (∀ wx, Below w.heap.size w wx → (wx.cell? ⟨k.K, 2, none⟩ = some (.pointer (some ⟨fc.F, 0, none⟩)) ∧ wx.cell? ⟨k.K, 8 + p * 38 + 18, none⟩ = some (.slice none 0 0) ∧ (ldR 53 (.pointer (some ⟨k.K, 8 + p * 38 + 11, none⟩))).run Tryz.prog wx = .ok (.agg (crA U K a cap)) wx ∧ wx.cell? ⟨k.K, 8 + p * 38 + 17, none⟩ = some (.slice (some ⟨gc, 0, none⟩) 1 cc))) := Lib.hid (fun wx hb => ⟨(h.keep hb).fsp, by rw [(h.keep hb).kt.kr.cell (by have := q.p16; omega), q.mt], (h.keep hb).ldcr (q.keep hb), by rw [(h.keep hb).kt.kr.cell (by have := q.p16; omega), q.wd]⟩)
  have HST := Lib.hid (fun wx (hb : Below w.heap.size w wx) => statF_is (h.keep hb).fs (i := 1) (by decide) (n := 2) rfl (by rw [hk1]; decide))
  have i17 : (p : Int) < 17 := by have := q.p16; omega
  clear h q hM hk hp hs hp0 hp1 hf hk1
  generalize x.nd 1 = nd at *
  go_enter Tryz.func86, Tryz.ntmps86
  go_upto_region 2 with fail
  generalize w.alloc (.cells #[.int .i64 0, .int .i64 0, .int .i64 0, .int .i64 0, .int .i64 0, .int .i64 0] 31) = w0 at *
  go_region_held3 (fun wx => wx.cell? ⟨k.K, 2, none⟩ = some (.pointer (some ⟨fc.F, 0, none⟩)) ∧ wx.cell? ⟨k.K, 8 + p * 38 + 18, none⟩ = some (.slice none 0 0) ∧ (ldR 53 (.pointer (some ⟨k.K, 8 + p * 38 + 11, none⟩))).run Tryz.prog wx = .ok (.agg (crA U K a cap)) wx ∧ wx.cell? ⟨k.K, 8 + p * 38 + 17, none⟩ = some (.slice (some ⟨gc, 0, none⟩) 1 cc)) (first | (with_reducible exact HL.out _ HB0.out) | (with_reducible exact HL.out _ HB0.out.drew) | (with_reducible exact HL.out _ HB1.out) | fail)
          (first | (go_at_call 167; (with_reducible refine (HPW.out _ HB0.out.drew).mono ?_); rintro e1 w1 ⟨g1, c1, rfl, y1, q1, q2, hb1⟩; have HB1 := Lib.hid (HB0.out.drew.trans (hb1.mono HB0.out.drew.size)); have HR1 := Lib.hid (HR0.out.drew.keep hb1); clear hb1) | fail)
  have hmx : (c1 : Int) ≤ 9223372036854775807 := by unfold maxLen at q2; omega
  have hm2 : (2 : Int) ≤ (c1 : Int) := by omega
  have HQ := Lib.hid (And.intro q1 q2)
  have hg1 : g1 < w1.heap.size := World.block_lt_of_cell? w1 _ y1
  have a2 := (HL.out _ HB1.out).1
  have HZ2 := Lib.hid (fun k => (row_new w1 31 (#[.int .i64 0, .int .i64 0, .int .i64 0, .int .i64 0, .int .i64 0, .int .i64 0] : Array Value)).keep (below_drewN (Below.refl _ _) k))
  have HBO : Hid (∀ wx, Below w1.heap.size w1 wx → (Below w1.heap.size w1 wx ∧ wx.cell? ⟨k.K, 2, none⟩ = some (.pointer (some ⟨fc.F, 0, none⟩)) ∧ wx.cell? ⟨g1, 1, none⟩ = some (.int .i64 2))) := Lib.hid (fun wx hb => ⟨hb, (HL.out _ (HB1.out.trans (hb.mono HB1.out.size))).1, (hb.cell (p := ⟨g1, 1, none⟩) hg1).trans y1⟩)
  have HS1 : Hid (∀ wx, Below w1.heap.size w1 wx → Calls Tryz.prog 159 #[.pointer (some ⟨fc.F, 0, none⟩), .int .i64 2] wx fun e w' => e = .returned (.tuple #[.agg (stA nd), .int .i64 0]) ∧ Below wx.heap.size wx w') := Lib.hid (fun wx hb => HST.out _ (HB1.out.trans (hb.mono HB1.out.size)))
  have HZ3 := Lib.hid (fun (wx : World) (hb : Below (w1.drew.alloc (.cells #[.int .i64 0, .int .i64 0, .int .i64 0, .int .i64 0, .int .i64 0, .int .i64 0] 31)).heap.size (w1.drew.alloc (.cells #[.int .i64 0, .int .i64 0, .int .i64 0, .int .i64 0, .int .i64 0, .int .i64 0] 31)) wx) => (show Row wx w1.heap.size 31 (#[.int .i64 0, .int .i64 0, .int .i64 0, .int .i64 0, .int .i64 0, .int .i64 0] : Array Value) from (row_new w1.drew 31 (#[.int .i64 0, .int .i64 0, .int .i64 0, .int .i64 0, .int .i64 0, .int .i64 0] : Array Value)).keep hb))
  have HZ4 := Lib.hid (fun (wx : World) (hb : Below (w1.alloc (.cells #[.int .i64 0, .int .i64 0, .int .i64 0, .int .i64 0, .int .i64 0, .int .i64 0] 31)).drew.heap.size (w1.alloc (.cells #[.int .i64 0, .int .i64 0, .int .i64 0, .int .i64 0, .int .i64 0, .int .i64 0] 31)).drew wx) => (row_new w1 31 (#[.int .i64 0, .int .i64 0, .int .i64 0, .int .i64 0, .int .i64 0, .int .i64 0] : Array Value)).drew.keep hb)
  have HZ5 := Lib.hid (fun (wx : World) (hb : Below (w1.alloc (.cells #[.int .i64 0, .int .i64 0, .int .i64 0, .int .i64 0, .int .i64 0, .int .i64 0] 31)).heap.size (w1.alloc (.cells #[.int .i64 0, .int .i64 0, .int .i64 0, .int .i64 0, .int .i64 0, .int .i64 0] 31)) wx) => (row_new w1 31 (#[.int .i64 0, .int .i64 0, .int .i64 0, .int .i64 0, .int .i64 0, .int .i64 0] : Array Value)).keep hb)
  clear HPW HL HST y1 q1 q2 hg1
  have yw : IntKind.i64.wrap 1 = 1 := by decide
  go_upto_region 5 with fail
  go_cut [11, 12] (fun s3 s4 wx => s3 = .int .i64 0 ∧ ∃ b9, s4 = .pointer (some ⟨b9, 0, none⟩) ∧ w1.heap.size ≤ b9 ∧ Below w1.heap.size w1 wx ∧ Row wx b9 31 (stA nd) ∧ wx.cell? ⟨g1, 1, none⟩ = some (.int .i64 2))
  case first =>
    go_region_held3 (fun wx => Below w1.heap.size w1 wx ∧ wx.cell? ⟨k.K, 2, none⟩ = some (.pointer (some ⟨fc.F, 0, none⟩)) ∧ wx.cell? ⟨g1, 1, none⟩ = some (.int .i64 2)) (first | assumption | (with_reducible exact HBO.out _ (Below.refl _ _)) | (with_reducible exact HBO.out _ (Below.refl _ _).drew) | (with_reducible exact HBO.out _ (below_drewN (And.left ‹_›) _)) | (with_reducible exact HBO.out _ (below_setRow (And.left ‹_›) (Nat.le_refl _) _)) | (with_reducible exact HBO.out _ (Below.alloc (And.left ‹_›) (Below.size (And.left ‹_›)) _)) | go_keep)
      (first | (go_at_call 159; refine (HS1.out _ (‹Below w1.heap.size w1 _ ∧ _›).1).mono ?_; rintro e9 w9 ⟨rfl, hb9⟩; have hS := HBO.out _ ((‹Below w1.heap.size w1 _ ∧ _›).1.trans (hb9.mono (‹Below w1.heap.size w1 _ ∧ _›).1.size)); first | have hst := (HZ3.out _ hb9).stS nd | have hst := (HZ4.out _ hb9).stS nd | have hst := (HZ5.out _ hb9).stS nd | skip))
    all_goals go_wp2
    all_goals go_meet
    all_goals first
      | exact ⟨rfl, _, rfl, hS.1.size, hS.1.alloc hS.1.size _, row_new _ _ _, (HBO.out _ (hS.1.alloc hS.1.size _)).2.2⟩
      | exact ⟨rfl, _, rfl, Nat.le_refl _, below_setRow hS.1 (Nat.le_refl _) _, ((HZ3.out _ hb9)).setRow _, (HBO.out _ (below_setRow hS.1 (Nat.le_refl _) _)).2.2⟩
      | exact ⟨rfl, _, rfl, Nat.le_refl _, below_setRow hS.1 (Nat.le_refl _) _, ((HZ4.out _ hb9)).setRow _, (HBO.out _ (below_setRow hS.1 (Nat.le_refl _) _)).2.2⟩
      | exact ⟨rfl, _, rfl, Nat.le_refl _, below_setRow hS.1 (Nat.le_refl _) _, ((HZ5.out _ hb9)).setRow _, (HBO.out _ (below_setRow hS.1 (Nat.le_refl _) _)).2.2⟩
  case rest =>
    obtain ⟨rfl, b9, rfl, hbl, hbc, hr9, y1⟩ := hcut
    have l9 := hr9.drew.ldS
    have HBC := Lib.hid (HB1.out.trans (hbc.drew.mono HB1.out.size))
    have hlt : w.heap.size < w1.heap.size := HR1.out.lt
    have hr0 := (HR1.out.keep hbc).drew
    have st9 := Row.stS' (n' := nd) hr0
    have lv9 := (hr0.setRow (stA nd)).ldVS
    have hne : g1 ≠ w.heap.size := fun e => by
      have z : wc.cell? ⟨w.heap.size, 1, none⟩ = some (.int .i64 0) := (HR1.out.keep hbc).cell 1
      rw [← e, y1] at z
      injection z with z
      injection z with _ z
      exact absurd z (by decide)
    have HG := Lib.hid (show (wc.drew.setRow w.heap.size (stA nd)).cell? ⟨g1, 1, none⟩ = some (.int .i64 2) from ((Upd.setRow (S := fun j => j = w.heap.size) wc.drew (stA nd) rfl).cell (World.block_lt_of_cell? wc _ y1) hne).trans y1)
    clear hbl hbc hr9 y1 hr0 hne HZ2 HZ3 HZ4 HZ5 HBO HS1
    generalize hZ : stA nd = Z at l9 st9 lv9 HG ⊢
    have HZ := Lib.hid hZ
    clear hZ
    go_upto_region 6 with fail
    go_region
    all_goals
      go_wp2_with fail
      exact bodyPost_ret (v := .tuple #[.slice (some ⟨g1, 0, none⟩) 2 c1, .agg Z, .int .i64 0]) (by rw [results_tct rfl]; simp [asAddr, Result.andThen, lv9]) rfl ⟨g1, c1, by rw [HZ.out], HG.out, HQ.out.1, HQ.out.2, HBC.out.trans ((Upd.setRow (S := fun j => j = w.heap.size) wc.drew Z rfl).toBelow HBC.out.size (fun k hk e => by have e : k = w.heap.size := e; omega))⟩
end
end Go.Proofs.YthioadiiedlmfaaGreatDoor
namespace Go.Proofs.YthioadiiedlmfaaGreatDoor
open Go.RowKit Go.Maps
set_option linter.unusedVariables false
set_option linter.unusedSimpArgs false
/-- the file "f" is there, and empty -/
structure FileF (x : FM) (q : Nat) (m : Int) : Prop where
  k : (x.nd 0).k = 2
  m0 : (x.nd 0).m = 493
  u : (x.nd 0).u = 0
  g : (x.nd 0).g = 0
  ps : (x.nd 0).ps = [(q : Int)]
  sz : (x.nd 0).sz = 16
  q0 : q ≠ 0
  q1 : q < 256
  sec : (fsec x q).take 16 = entL
  n1 : ∃ pv, x.nd 1 = ⟨1, m, 0, 0, 0, 1, 0, pv, []⟩
theorem MadeF.file {w w' : World} {c : FC} {x x' : FM} {q : Nat} {m : Int} (h : MadeF w w' c x q m 0 0 x') (hr : Root0 x q) : FileF x' q m := by
  obtain ⟨pv, e⟩ := h.r0
  refine ⟨?_, ?_, ?_, ?_, ?_, ?_, ?_, hr.fst.hi, ?_, h.r1⟩
  · rw [e]; exact hr.k
  · rw [e]; exact hr.m
  · rw [e]; exact hr.u
  · rw [e]; exact hr.g
  · rw [e]
  · rw [e]
  · have := hr.fst.lo; omega
  · rw [h.sec]; rfl
section
variable {w : World} {k : KC} {s : KSt} {fc : FC} {x : FM} {p : Nat} {U K : Int} {a : Option Addr} {cap gc cc : Nat}
attribute [local go_sem ↓] ld_sta st_sta
attribute [local go_sem] stS_new
set_option maxRecDepth 100000 in
set_option maxHeartbeats 1000000 in
theorem openedN_is (h : KF w k s fc x) (q : Who w s p 0 127 a cap gc cc) {q0 : Nat} (hr : Root0 x q0) (hna : x.na ≤ 24) {m : Int} (hm : 0 ≤ m ∧ m ≤ 511) {A : Array Value} (hA2 : A[2]? = some (.int .i64 1)) (hA3 : A[3]? = some (.int .i64 m)) (hA4 : A[4]? = some (.string ⟨#[102]⟩))
    (hM : ∀ w, Calls Tryz.prog 168 #[.agg (stA (x.nd 0)), .agg (crA 0 127 a cap), .int .i64 4] w fun e w' => e = .returned (.tuple #[.bool true, .int .i64 0]) ∧ Below w.heap.size w w')
    (hM2 : ∀ w, Calls Tryz.prog 168 #[.agg (stA (x.nd 0)), .agg (crA 0 127 a cap), .int .i64 2] w fun e w' => e = .returned (.tuple #[.bool true, .int .i64 0]) ∧ Below w.heap.size w w') :
    Calls Tryz.prog 151 #[.pointer (some ⟨k.K, 0, none⟩), .int .i64 p, .agg A] w fun e w' => e = .returned (.tuple #[.int .i64 2, .int .i64 0]) ∧ ∃ x', KF w' k s fc x' ∧ FileF x' q0 m ∧ x'.held = x.held ∧ x'.nh = x.nh ∧ Upd x.bs w w' ∧ ∀ j, x'.bs j → x.bs j ∨ w.heap.size ≤ j := by
  have hb1 := Go.Joins.below_alloc1 w (.cells A 36)
  have hr1 := row_new w 36 A
  have d4 : (w.alloc (.cells A 36)).cell? ⟨w.heap.size, 4, none⟩ = some (.string ⟨#[102]⟩) := (hr1.cell 4).trans hA4
  have hz : ∀ j, x.bs j → j < w.heap.size := h.fs.lt
  have hF : x.bs fc.F := h.fs.bm _ (.inl rfl)
  have ha : x.bs x.a := h.fs.bm _ (.inr (.inl rfl))
  have hK0 : s.tag k.K ≠ 0 := by rw [h.kt.tK]; decide
  have HW := Lib.hid (kwalkN_is (h.keep hb1) (q.keep hb1) hr.k hr.ps hr.sz hM)
  have HLS := Lib.hid (fun wx (hb : Below w.heap.size w wx) => klast_is (h.keep hb) (q.keep hb) hr.k hM hM2)
  have HMK := Lib.hid (fun wx (hb : Below w.heap.size w wx) => make0_is (h.keep hb).fs hr hna hm (u := 0) (g := 0) (by decide) (by decide))
  have hc11 : ∀ wx, Below w.heap.size w wx → wx.cell? ⟨k.K, 8 + p * 38 + 11, none⟩ = some (.int .i64 0) ∧ wx.cell? ⟨k.K, 8 + p * 38 + 12, none⟩ = some (.int .i64 0) := fun wx hb => by
    have := q.p16
    refine ⟨?_, ?_⟩
    · rw [(h.keep hb).kt.kr.cell (by omega)]; exact (q.cr 0 (by decide)).symm
    · rw [(h.keep hb).kt.kr.cell (by omega)]; exact (q.cr 1 (by decide)).symm
  have HS : Hid (∀ wx, Below (w.alloc (.cells A 36)).heap.size (w.alloc (.cells A 36)) wx → (wx.cell? ⟨k.K, 2, none⟩ = some (.pointer (some ⟨fc.F, 0, none⟩)) ∧ wx.cell? ⟨w.heap.size, 3, none⟩ = some (.int .i64 m) ∧ wx.cell? ⟨k.K, 8 + p * 38 + 11, none⟩ = some (.int .i64 0) ∧ wx.cell? ⟨k.K, 8 + p * 38 + 12, none⟩ = some (.int .i64 0) ∧ wx.cell? ⟨k.K, 8 + p * 38 + 11 + 1, none⟩ = some (.int .i64 0) ∧ wx.cell? ⟨w.heap.size, 4, none⟩ = some (.string ⟨#[102]⟩) ∧ wx.cell? ⟨w.heap.size, 2, none⟩ = some (.int .i64 1))) := Lib.hid (fun wx hb => by
    have hbw := hb1.trans (hb.mono hb1.size)
    exact ⟨(h.keep hbw).fsp, ((hr1.keep hb).cell 3).trans hA3, (hc11 wx hbw).1, (hc11 wx hbw).2, (hc11 wx hbw).2, ((hr1.keep hb).cell 4).trans hA4, ((hr1.keep hb).cell 2).trans hA2⟩)
  have HS2 : Hid (∀ wx w', Below (w.alloc (.cells A 36)).heap.size (w.alloc (.cells A 36)) wx → Upd (fun j => j = fc.F ∨ j = x.a) wx w' → (w'.cell? ⟨k.K, 2, none⟩ = some (.pointer (some ⟨fc.F, 0, none⟩)) ∧ w'.cell? ⟨w.heap.size, 3, none⟩ = some (.int .i64 m) ∧ w'.cell? ⟨k.K, 8 + p * 38 + 11, none⟩ = some (.int .i64 0) ∧ w'.cell? ⟨k.K, 8 + p * 38 + 12, none⟩ = some (.int .i64 0) ∧ w'.cell? ⟨k.K, 8 + p * 38 + 11 + 1, none⟩ = some (.int .i64 0) ∧ w'.cell? ⟨w.heap.size, 4, none⟩ = some (.string ⟨#[102]⟩) ∧ w'.cell? ⟨w.heap.size, 2, none⟩ = some (.int .i64 1))) := Lib.hid (fun wx w' hb hu => by
    have hK : ¬ (k.K = fc.F ∨ k.K = x.a) := by
      rintro (e | e)
      · exact hK0 (h.sep _ (e ▸ hF))
      · exact hK0 (h.sep _ (e ▸ ha))
    have hC : ¬ (w.heap.size = fc.F ∨ w.heap.size = x.a) := by
      rintro (e | e)
      · have := hz _ hF; omega
      · have := hz _ ha; omega
    obtain ⟨t1, t2, t3, t4, t5, t6, t7⟩ := HS.out wx hb
    have lt : ∀ {b o v}, wx.cell? ⟨b, o, none⟩ = some v → b < wx.heap.size := fun e => World.block_lt_of_cell? wx _ e
    exact ⟨(hu.cell (lt t1) hK).trans t1, (hu.cell (lt t2) hC).trans t2, (hu.cell (lt t3) hK).trans t3, (hu.cell (lt t4) hK).trans t4, (hu.cell (lt t5) hK).trans t5, (hu.cell (lt t6) hC).trans t6, (hu.cell (lt t7) hC).trans t7⟩)
  have i17 : (p : Int) < 17 := by have := q.p16; omega
  have HH := Lib.hid h
  have HRT := Lib.hid hr
  have HB1 := Lib.hid hb1
  have HMF : Hid (∀ wx w' x', Below w.heap.size w wx → MadeF wx w' fc x q0 m 0 0 x' → (KF w' k s fc x' ∧ FileF x' q0 m ∧ x'.held = x.held ∧ x'.nh = x.nh ∧ Upd x.bs w w' ∧ ∀ j, x'.bs j → x.bs j ∨ w.heap.size ≤ j)) := Lib.hid (fun wx w' x' hb hx => by
    have hu : Upd x.bs wx w' := hx.up.mono fun j _ e => by rcases e with rfl | rfl; exact hF; exact ha
    have hs : ∀ j, x'.bs j → x.bs j ∨ w.heap.size ≤ j := fun j e => (hx.bs j e).imp_right fun q => Nat.le_trans hb.size q
    exact ⟨⟨(h.keep hb).kt.upd hu (fun j e q => e (h.sep j q)), h.c2, hx.st, fun j e => (hs j e).elim (h.sep j) (h.kt.tz j)⟩, hx.file hr, hx.held.1, hx.held.2, (Upd.below hb).trans hu, hs⟩)
  clear h q hr hna hm hM hM2 hb1 hr1 hc11 hz hF ha hK0
  go_enter Tryz.func151, Tryz.ntmps151
  go_upto_region 1 with fail
  generalize w.alloc (.cells A 36) = w1 at *
  go_upto_region 2 with (go_at_call 86; (with_reducible refine HW.out.mono ?_); rintro e2 w2 ⟨rfl, hb2⟩)
  have HB3 := Lib.hid (hb2.alloc hb2.size (.cells (stA nd0) 31))
  clear hb2 d4 HW
  generalize w2.alloc (.cells (stA nd0) 31) = w3 at *
  obtain ⟨t1, t2, t3, t4, t5, t6, t7⟩ := HS.out _ HB3.out
  have HL3 := Lib.hid (HLS.out _ (HB1.out.trans (HB3.out.mono HB1.out.size)))
  clear HLS
  go_upto_region 4 with (go_at_call 161; (with_reducible refine HL3.out.mono ?_); rintro e4 w4 ⟨rfl, hb4⟩)
  have HB4 := Lib.hid (HB3.out.trans (hb4.mono HB3.out.size))
  have HB14 := Lib.hid (HB1.out.trans (HB4.out.mono HB1.out.size))
  clear hb4 HL3 t1 t2 t3 t4 t5 t6 t7
  go_upto_region 7 with fail
  go_region_held3 (fun wx => wx.cell? ⟨k.K, 2, none⟩ = some (.pointer (some ⟨fc.F, 0, none⟩)) ∧ wx.cell? ⟨w.heap.size, 3, none⟩ = some (.int .i64 m) ∧ wx.cell? ⟨k.K, 8 + p * 38 + 11, none⟩ = some (.int .i64 0) ∧ wx.cell? ⟨k.K, 8 + p * 38 + 12, none⟩ = some (.int .i64 0) ∧ wx.cell? ⟨k.K, 8 + p * 38 + 11 + 1, none⟩ = some (.int .i64 0) ∧ wx.cell? ⟨w.heap.size, 4, none⟩ = some (.string ⟨#[102]⟩) ∧ wx.cell? ⟨w.heap.size, 2, none⟩ = some (.int .i64 1)) (first | (with_reducible exact HS.out _ HB4.out) | (with_reducible exact HS.out _ HB4.out.drew) | (with_reducible exact HS2.out _ _ HB4.out.drew HX9.out.up) | fail) (first | (go_at_call 60; (with_reducible refine (HMK.out _ HB14.out.drew).mono ?_); rintro e9 w9 ⟨rfl, x9, hx9⟩; have HX9 := Lib.hid hx9; clear hx9) | fail)
  all_goals
    go_wp2_with fail
    go_ret2
    exact ⟨rfl, x9, HMF.out _ _ _ HB14.out.drew HX9.out⟩
set_option maxRecDepth 100000 in
set_option maxHeartbeats 1000000 in
theorem openedF_is (h : KF w k s fc x) (q : Who w s p U K a cap gc cc) {q0 : Nat} {m : Int} (hf : FileF x q0 m) {A : Array Value} {W : Int} {ok : Bool} (hA1 : A[1]? = some (.int .i64 W)) (hA2 : A[2]? = some (.int .i64 0)) (hA4 : A[4]? = some (.string ⟨#[102]⟩))
    (hM : ∀ w, Calls Tryz.prog 168 #[.agg (stA (x.nd 0)), .agg (crA U K a cap), .int .i64 4] w fun e w' => e = .returned (.tuple #[.bool true, .int .i64 0]) ∧ Below w.heap.size w w')
    (hM2 : ∀ w, Calls Tryz.prog 168 #[.agg (stA (x.nd 1)), .agg (crA U K a cap), .int .i64 W] w fun e w' => e = .returned (.tuple #[.bool ok, .int .i64 0]) ∧ Below w.heap.size w w') :
    Calls Tryz.prog 151 #[.pointer (some ⟨k.K, 0, none⟩), .int .i64 p, .agg A] w fun e w' => e = .returned (.tuple #[.int .i64 (bif ok then 2 else 0), .int .i64 (bif ok then 0 else 7)]) ∧ Below w.heap.size w w' := by
  have hb1 := Go.Joins.below_alloc1 w (.cells A 36)
  have hr1 := row_new w 36 A
  obtain ⟨pv, hn1⟩ := hf.n1
  have hk1 : (x.nd 1).k = 1 := by rw [hn1]
  have HC : Hid (∀ wx, Below (w.alloc (.cells A 36)).heap.size (w.alloc (.cells A 36)) wx → (wx.cell? ⟨w.heap.size, 1, none⟩ = some (.int .i64 W) ∧ wx.cell? ⟨w.heap.size, 2, none⟩ = some (.int .i64 0) ∧ wx.cell? ⟨w.heap.size, 4, none⟩ = some (.string ⟨#[102]⟩))) := Lib.hid (fun wx hb => ⟨((hr1.keep hb).cell 1).trans hA1, ((hr1.keep hb).cell 2).trans hA2, ((hr1.keep hb).cell 4).trans hA4⟩)
  have HW := Lib.hid (kwalkF_is (h.keep hb1) (q.keep hb1) hf.k hf.ps hf.q0 hf.q1 hf.sz hf.sec hk1 hM)
  have HMY := Lib.hid (fun wx (hb : Below w.heap.size w wx) => kmay_is (h.keep hb) (q.keep hb) (i := 1) (by decide) (n := 2) rfl (by rw [hk1]; decide) hM2)
  have HSA : Hid ((stA (x.nd 1))[0]? = some (.int .i64 1)) := Lib.hid (by show some (Value.int .i64 (x.nd 1).k) = _; rw [hk1])
  obtain ⟨-, -, d4⟩ := HC.out _ (Below.refl _ _)
  have HB1 := Lib.hid hb1
  clear h q hf hM hM2 hb1 hr1 hn1 hk1
  generalize x.nd 1 = nd at *
  go_enter Tryz.func151, Tryz.ntmps151
  go_upto_region 1 with fail
  generalize w.alloc (.cells A 36) = w1 at *
  go_upto_region 2 with (go_at_call 86; (with_reducible refine HW.out.mono ?_); rintro e2 w2 ⟨g2, c2, rfl, y2, q1, q2, hb2⟩)
  have hal := Go.Joins.below_alloc1 w2 (.cells (stA nd) 31)
  have hmx : (c2 : Int) ≤ 9223372036854775807 := by unfold maxLen at q2; omega
  have hm2 : (2 : Int) ≤ (c2 : Int) := by omega
  have HB3 := Lib.hid (hb2.trans (hal.mono hb2.size))
  have y3 := (hal.cell (p := ⟨g2, 1, none⟩) (World.block_lt_of_cell? w2 _ y2)).trans y2
  have s0 : (w2.alloc (.cells (stA nd) 31)).cell? ⟨w2.heap.size, 0, none⟩ = some (.int .i64 1) := ((row_new w2 31 (stA nd)).cell 0).trans HSA.out
  clear hb2 d4 HW hal y2 q1 q2 HSA
  generalize w2.alloc (.cells (stA nd) 31) = w3 at *
  obtain ⟨t1, t2, -⟩ := HC.out _ HB3.out
  have HM3 := Lib.hid (HMY.out _ (HB1.out.trans (HB3.out.mono HB1.out.size)))
  clear HMY
  go_upto_region 16 with (go_at_call 92; (with_reducible refine HM3.out.mono ?_); rintro e4 w4 ⟨rfl, hb4⟩)
  have HB4 := Lib.hid (HB3.out.trans (hb4.mono HB3.out.size))
  obtain ⟨u1, u2, -⟩ := HC.out _ HB4.out
  have HB14 := Lib.hid (HB1.out.trans (HB4.out.mono HB1.out.size))
  clear hb4 HM3 t1 t2 y3 s0
  cases ok
  all_goals
    dsimp only [cond_true, cond_false] at *
    go_wp2_with fail
    go_ret2
    exact ⟨rfl, HB14.out⟩
end
end Go.Proofs.YthioadiiedlmfaaGreatDoor
