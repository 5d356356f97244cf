/- The walks of the kernel's descriptor at read and write of a file; the way from do. The walk of the kernel's descriptor at seek. -/
import Derived.Test.YtlfemcbfclallaaGreatDoorRwC
namespace Go.Proofs.YtlfemcbfclallaaGreatDoor
open Go.RowKit
set_option linter.unusedVariables false
set_option linter.unusedSimpArgs false
theorem ld_thg (v : Value) : Instr.loadAt 160 v = ldR 160 v := rfl
theorem st_thg (p v : Value) : Instr.storeAt 160 p v = stR 160 p v := rfl
theorem alloc2f (w : World) (o1 o2 : Obj) : Below w.heap.size w ((w.alloc o1).alloc o2) ∧ ((w.alloc o1).alloc o2).heap[w.heap.size]? = some o1 ∧ ((w.alloc o1).alloc o2).heap[w.heap.size + 1]? = some o2 := by
  have s1 := size_alloc1 w o1
  refine ⟨((Below.refl _ _).alloc (Nat.le_refl _) _).alloc (by omega) _, ?_, ?_⟩
  · rw [heap_alloc_old _ _ (by omega)]; exact heap_alloc_new _ _
  · rw [← s1]; exact heap_alloc_new _ _
section
variable {w0 w : World} {Out : World → Array Value → World → Prop} {k : KC} {s : KSt} {fc : FC} {x : FM} {p b0 b1 b2 : Nat} {A : Array Value}
attribute [local go_sem ↓] bd_ans ld_ans st_ans ld_call ld_thg st_thg
set_option maxRecDepth 100000 in
set_option maxHeartbeats 1000000 in
theorem descW_is (ok : OutOk w0 Out) (h : KF w0 k s fc x) (p1 : 1 ≤ p) (p16 : p ≤ 16) {j k0 : Nat} (hj : j < 8) (hd : s.fd (p * 8 + j) = k0 + 1) {a : Int} (hF : OpenLaw.thing (s.fs k0) = .agg (thF a)) (hA : A.size = 7) (ha : A[0]? = some (.int .i64 8)) (ha1 : A[1]? = some (.int .i64 j)) (hs : Spec w0 Out 83 #[.pointer (some ⟨k.K, 0, none⟩), .int .i64 p, .agg A, .agg (thF a)]) :
    Spec w0 Out 38 #[.pointer (some ⟨k.K, 0, none⟩), .int .i64 p, .agg A] := by
  intro w h0
  obtain ⟨hb, r1, r2⟩ := alloc2f w (.cells A 37) (.cells ansZ 34)
  have d0 := cell_of_row _ w.heap.size 0 _ _ (0, 0) r1
  rw [ha] at d0
  have d1 := cell_of_row _ w.heap.size 1 _ _ (0, 0) r1
  rw [ha1] at d1
  have h01 := h0.trans (hb.mono h0.size)
  have q6 : ((w.alloc (.cells A 37)).alloc (.cells ansZ 34)).cell? ⟨k.K, 6, none⟩ = some (.pointer (some ⟨k.Fi, 0, none⟩)) := by rw [(h.keep h01).kt.kr.cell (by decide), h.kt.c6]
  have hz1 : thF a = #[.int .i64 1, .int .i64 2, .int .i64 3, .bool false, .int .i64 a] := rfl
  rw [hz1] at hF hs
  have HG : Hid (∀ wx, Below ((w.alloc (.cells A 37)).alloc (.cells ansZ 34)).heap.size ((w.alloc (.cells A 37)).alloc (.cells ansZ 34)) wx → Calls Tryz.prog 81 #[.pointer (some ⟨k.Fi, 0, none⟩), .int .i64 p, .int .i64 j] wx fun e w' => e = .returned (.tuple #[.agg #[.int .i64 1, .int .i64 2, .int .i64 3, .bool false, .int .i64 a], .int .i64 0]) ∧ Below wx.heap.size wx w') := Lib.hid fun wx hx => hF ▸ OpenLaw.get_is ((h.keep h01).keep hx).kt.fi p1 p16 hj hd
  have HR1 : Hid (Row ((w.alloc (.cells A 37)).alloc (.cells ansZ 34)) w.heap.size 37 A) := Lib.hid r1
  have HR : Hid (Row ((w.alloc (.cells A 37)).alloc (.cells ansZ 34)) (w.heap.size + 1) 34 ansZ) := Lib.hid r2
  have HB := Lib.hid hb
  have HC := Lib.hid hs
  have HOK := Lib.hid ok
  have H0 := Lib.hid h0
  have HK := Lib.hid h.kt.kr.lt
  have HLT : Hid (w.heap.size + 1 < ((w.alloc (.cells A 37)).alloc (.cells ansZ 34)).heap.size) := Lib.hid HR.out.lt
  have HAS := Lib.hid hA
  clear hb r1 r2 hA ha hs ok h0 h hd hF h01 p1 p16 hj
  have hzz : ansZ = #[.int .i64 0, .int .i64 0, .int .i64 0, .slice none 0 0, .slice none 0 0, .int .i64 0, .int .i64 0, .int .i64 0, .int .i64 0, .int .i64 0, .int .i64 0] := rfl
  rw [hzz] at d0 d1 q6 HG HR1 HB HLT
  have HR : Hid (Row ((w.alloc (.cells A 37)).alloc (.cells #[.int .i64 0, .int .i64 0, .int .i64 0, .slice none 0 0, .slice none 0 0, .int .i64 0, .int .i64 0, .int .i64 0, .int .i64 0, .int .i64 0, .int .i64 0] 34)) (w.heap.size + 1) 34 ansZ) := HR
  go_enter Tryz.func38, Tryz.ntmps38
  go_upto_region 1 with fail
  generalize (w.alloc (.cells A 37)).alloc (.cells #[.int .i64 0, .int .i64 0, .int .i64 0, .slice none 0 0, .slice none 0 0, .int .i64 0, .int .i64 0, .int .i64 0, .int .i64 0, .int .i64 0, .int .i64 0] 34) = w1 at *
  go_upto_region 16 with fail
  have HKK : Hid (∀ w2, Below w1.heap.size w1 w2 → w2.cell? ⟨k.K, 6, none⟩ = some (.pointer (some ⟨k.Fi, 0, none⟩)) ∧ w2.cell? ⟨w.heap.size, 1, none⟩ = some (.int .i64 j)) := Lib.hid fun w2 hu => ⟨(hu.cell (p := ⟨k.K, 6, none⟩) (World.block_lt_of_cell? w1 _ q6)).trans q6, (hu.cell (p := ⟨w.heap.size, 1, none⟩) (World.block_lt_of_cell? w1 _ d1)).trans d1⟩
  have hbd := (Below.refl w1.heap.size w1).drew
  have hbz := Go.Joins.below_alloc1 w1 (.cells #[.int .i64 0, .int .i64 0, .int .i64 0, .bool false, .int .i64 0] 160)
  have hS1 := HKK.out _ hbz.drew
  go_region_held3 (fun wx => wx.cell? ⟨k.K, 6, none⟩ = some (.pointer (some ⟨k.Fi, 0, none⟩)) ∧ wx.cell? ⟨w.heap.size, 1, none⟩ = some (.int .i64 j)) (first | exact ⟨q6, d1⟩ | exact hS1 | exact hS2 | exact hS3 | exact hS4 | assumption)
    (first | ((go_at_call 81; (with_reducible refine (HG.out w1.drew hbd).mono ?_); rintro e2 w2 ⟨rfl, hb2⟩; have hb2 := hbd.trans hb2; have hb3 := hb2.trans ((Go.Joins.below_alloc1 w2 (.cells #[.int .i64 0, .int .i64 0, .int .i64 0, .bool false, .int .i64 0] 160)).mono hb2.size); have hst := st0_new w2 (T := 160) (c := #[.int .i64 0, .int .i64 0, .int .i64 0, .bool false, .int .i64 0]) (cs := #[.int .i64 1, .int .i64 2, .int .i64 3, .bool false, .int .i64 a]) rfl (by kernel_rfl) (by simp [Value.oneCell']); have hb4 := hb2.trans ((Go.Joins.below_alloc1 w2 (.cells #[.int .i64 1, .int .i64 2, .int .i64 3, .bool false, .int .i64 a] 160)).mono hb2.size); have hS2 := HKK.out w2 hb2; have hS3 := HKK.out _ hb3; have hS4 := HKK.out _ hb4; have HB4 := Lib.hid hb4; have HRT := Lib.hid (row_new w2 160 #[.int .i64 1, .int .i64 2, .int .i64 3, .bool false, .int .i64 a]); clear hb2 hb3 hb4; obtain ⟨w5, hw5⟩ : ∃ w5, w5 = w2.alloc (.cells #[.int .i64 1, .int .i64 2, .int .i64 3, .bool false, .int .i64 a] 160) := ⟨_, rfl⟩; rw [← hw5] at hst hS4 HB4 HRT; clear hw5)) | ((go_at_call 81; (with_reducible refine (HG.out _ hbz.drew).mono ?_); rintro e2 w2 ⟨rfl, hb2⟩; have hr2 := (row_new w1 160 #[.int .i64 0, .int .i64 0, .int .i64 0, .bool false, .int .i64 0]).drew.keep hb2; have hst := hr2.st0 (cs := #[.int .i64 1, .int .i64 2, .int .i64 3, .bool false, .int .i64 a]) rfl (by kernel_rfl) (by simp [Value.oneCell']); have hb2 := hbz.drew.trans (hb2.mono hbz.drew.size); have hb4 : Below w1.heap.size w1 (w2.setRow w1.heap.size #[.int .i64 1, .int .i64 2, .int .i64 3, .bool false, .int .i64 a]) := ((Upd.below (S := fun k => k = w1.heap.size) hb2).trans (Upd.setRow _ _ rfl)).toBelow (Nat.le_refl _) (fun k hk e => by omega); have hS2 := HKK.out w2 hb2; have hS4 := HKK.out _ hb4; have HB4 := Lib.hid hb4; have HRT := Lib.hid (hr2.setRow #[.int .i64 1, .int .i64 2, .int .i64 3, .bool false, .int .i64 a]); clear hb2 hb4 hr2; obtain ⟨w5, hw5⟩ : ∃ w5, w5 = w2.setRow w1.heap.size #[.int .i64 1, .int .i64 2, .int .i64 3, .bool false, .int .i64 a] := ⟨_, rfl⟩; rw [← hw5] at hst hS4 HB4 HRT; clear hw5)))
  all_goals
    have hb5 := HB4.out
    have HR5 := Lib.hid (HR.out.keep hb5)
    have hr1 := HR1.out.keep hb5
    have e0 : w5.cell? ⟨w.heap.size, 0, none⟩ = some (.int .i64 8) := (hb5.cell (p := ⟨w.heap.size, 0, none⟩) (World.block_lt_of_cell? w1 _ d0)).trans d0
    have l1 := tld_callR hr1 HAS.out
    have l2 := HRT.out.ld0 (d := _) Tryz.underlying160 rfl (by kernel_rfl)
    have HB5 := Lib.hid (HB.out.trans (hb5.mono HB.out.size))
    have HC5 := Lib.hid (HC.out w5 (H0.out.trans (HB5.out.mono H0.out.size)))
    have HL5 := Lib.hid (Nat.lt_of_lt_of_le HLT.out hb5.size)
    clear hb5 hr1 hS1 hS2 hS4 hst hbd hbz HKK HRT HB4 HC HG HR HR1 HB HLT d0 d1 q6
    (try clear hS3)
    go_wp2_with (go_at_call 83; refine HC5.out.mono ?_; rintro e6 w6 ⟨X, rfl, hX, hone, hu, ho⟩; have hr := ans_row H0.out HR5.out (Nat.le_succ _) hu; have hst := ans_st hr hX hone; have HLD := Lib.hid (ans_ldV hr hX); have HP := Lib.hid (HOK.out.put (C := X) H0.out HB5.out hu ho (Nat.le_succ _) HL5.out); have HX := Lib.hid (And.intro hX hone); clear hr hX hone hu ho; generalize w6.setRow (w.heap.size + 1) X = w7 at *)
    exact bodyPost_ret (v := .agg X) (by rw [results_cell1 rfl]; simp [asAddr, Result.andThen, HLD.out]) rfl ⟨X, rfl, HX.out.1, HX.out.2, HP.out.1, HP.out.2⟩
set_option maxRecDepth 100000 in
set_option maxHeartbeats 1000000 in
theorem descR_is (ok : OutOk w0 Out) (h : KF w0 k s fc x) (p1 : 1 ≤ p) (p16 : p ≤ 16) {j k0 : Nat} (hj : j < 8) (hd : s.fd (p * 8 + j) = k0 + 1) {a : Int} (hF : OpenLaw.thing (s.fs k0) = .agg (thF a)) (hA : A.size = 7) (ha : A[0]? = some (.int .i64 7)) (ha1 : A[1]? = some (.int .i64 j)) (hs : Spec w0 Out 82 #[.pointer (some ⟨k.K, 0, none⟩), .int .i64 p, .agg A, .agg (thF a)]) :
    Spec w0 Out 38 #[.pointer (some ⟨k.K, 0, none⟩), .int .i64 p, .agg A] := by
  intro w h0
  obtain ⟨hb, r1, r2⟩ := alloc2f w (.cells A 37) (.cells ansZ 34)
  have d0 := cell_of_row _ w.heap.size 0 _ _ (0, 0) r1
  rw [ha] at d0
  have d1 := cell_of_row _ w.heap.size 1 _ _ (0, 0) r1
  rw [ha1] at d1
  have h01 := h0.trans (hb.mono h0.size)
  have q6 : ((w.alloc (.cells A 37)).alloc (.cells ansZ 34)).cell? ⟨k.K, 6, none⟩ = some (.pointer (some ⟨k.Fi, 0, none⟩)) := by rw [(h.keep h01).kt.kr.cell (by decide), h.kt.c6]
  have hz1 : thF a = #[.int .i64 1, .int .i64 2, .int .i64 3, .bool false, .int .i64 a] := rfl
  rw [hz1] at hF hs
  have HG : Hid (∀ wx, Below ((w.alloc (.cells A 37)).alloc (.cells ansZ 34)).heap.size ((w.alloc (.cells A 37)).alloc (.cells ansZ 34)) wx → Calls Tryz.prog 81 #[.pointer (some ⟨k.Fi, 0, none⟩), .int .i64 p, .int .i64 j] wx fun e w' => e = .returned (.tuple #[.agg #[.int .i64 1, .int .i64 2, .int .i64 3, .bool false, .int .i64 a], .int .i64 0]) ∧ Below wx.heap.size wx w') := Lib.hid fun wx hx => hF ▸ OpenLaw.get_is ((h.keep h01).keep hx).kt.fi p1 p16 hj hd
  have HR1 : Hid (Row ((w.alloc (.cells A 37)).alloc (.cells ansZ 34)) w.heap.size 37 A) := Lib.hid r1
  have HR : Hid (Row ((w.alloc (.cells A 37)).alloc (.cells ansZ 34)) (w.heap.size + 1) 34 ansZ) := Lib.hid r2
  have HB := Lib.hid hb
  have HC := Lib.hid hs
  have HOK := Lib.hid ok
  have H0 := Lib.hid h0
  have HK := Lib.hid h.kt.kr.lt
  have HLT : Hid (w.heap.size + 1 < ((w.alloc (.cells A 37)).alloc (.cells ansZ 34)).heap.size) := Lib.hid HR.out.lt
  have HAS := Lib.hid hA
  clear hb r1 r2 hA ha hs ok h0 h hd hF h01 p1 p16 hj
  have hzz : ansZ = #[.int .i64 0, .int .i64 0, .int .i64 0, .slice none 0 0, .slice none 0 0, .int .i64 0, .int .i64 0, .int .i64 0, .int .i64 0, .int .i64 0, .int .i64 0] := rfl
  rw [hzz] at d0 d1 q6 HG HR1 HB HLT
  have HR : Hid (Row ((w.alloc (.cells A 37)).alloc (.cells #[.int .i64 0, .int .i64 0, .int .i64 0, .slice none 0 0, .slice none 0 0, .int .i64 0, .int .i64 0, .int .i64 0, .int .i64 0, .int .i64 0, .int .i64 0] 34)) (w.heap.size + 1) 34 ansZ) := HR
  go_enter Tryz.func38, Tryz.ntmps38
  go_upto_region 1 with fail
  generalize (w.alloc (.cells A 37)).alloc (.cells #[.int .i64 0, .int .i64 0, .int .i64 0, .slice none 0 0, .slice none 0 0, .int .i64 0, .int .i64 0, .int .i64 0, .int .i64 0, .int .i64 0, .int .i64 0] 34) = w1 at *
  go_upto_region 16 with fail
  have HKK : Hid (∀ w2, Below w1.heap.size w1 w2 → w2.cell? ⟨k.K, 6, none⟩ = some (.pointer (some ⟨k.Fi, 0, none⟩)) ∧ w2.cell? ⟨w.heap.size, 1, none⟩ = some (.int .i64 j)) := Lib.hid fun w2 hu => ⟨(hu.cell (p := ⟨k.K, 6, none⟩) (World.block_lt_of_cell? w1 _ q6)).trans q6, (hu.cell (p := ⟨w.heap.size, 1, none⟩) (World.block_lt_of_cell? w1 _ d1)).trans d1⟩
  have hbd := (Below.refl w1.heap.size w1).drew
  have hbz := Go.Joins.below_alloc1 w1 (.cells #[.int .i64 0, .int .i64 0, .int .i64 0, .bool false, .int .i64 0] 160)
  have hS1 := HKK.out _ hbz.drew
  go_region_held3 (fun wx => wx.cell? ⟨k.K, 6, none⟩ = some (.pointer (some ⟨k.Fi, 0, none⟩)) ∧ wx.cell? ⟨w.heap.size, 1, none⟩ = some (.int .i64 j)) (first | exact ⟨q6, d1⟩ | exact hS1 | exact hS2 | exact hS3 | exact hS4 | assumption)
    (first | ((go_at_call 81; (with_reducible refine (HG.out w1.drew hbd).mono ?_); rintro e2 w2 ⟨rfl, hb2⟩; have hb2 := hbd.trans hb2; have hb3 := hb2.trans ((Go.Joins.below_alloc1 w2 (.cells #[.int .i64 0, .int .i64 0, .int .i64 0, .bool false, .int .i64 0] 160)).mono hb2.size); have hst := st0_new w2 (T := 160) (c := #[.int .i64 0, .int .i64 0, .int .i64 0, .bool false, .int .i64 0]) (cs := #[.int .i64 1, .int .i64 2, .int .i64 3, .bool false, .int .i64 a]) rfl (by kernel_rfl) (by simp [Value.oneCell']); have hb4 := hb2.trans ((Go.Joins.below_alloc1 w2 (.cells #[.int .i64 1, .int .i64 2, .int .i64 3, .bool false, .int .i64 a] 160)).mono hb2.size); have hS2 := HKK.out w2 hb2; have hS3 := HKK.out _ hb3; have hS4 := HKK.out _ hb4; have HB4 := Lib.hid hb4; have HRT := Lib.hid (row_new w2 160 #[.int .i64 1, .int .i64 2, .int .i64 3, .bool false, .int .i64 a]); clear hb2 hb3 hb4; obtain ⟨w5, hw5⟩ : ∃ w5, w5 = w2.alloc (.cells #[.int .i64 1, .int .i64 2, .int .i64 3, .bool false, .int .i64 a] 160) := ⟨_, rfl⟩; rw [← hw5] at hst hS4 HB4 HRT; clear hw5)) | ((go_at_call 81; (with_reducible refine (HG.out _ hbz.drew).mono ?_); rintro e2 w2 ⟨rfl, hb2⟩; have hr2 := (row_new w1 160 #[.int .i64 0, .int .i64 0, .int .i64 0, .bool false, .int .i64 0]).drew.keep hb2; have hst := hr2.st0 (cs := #[.int .i64 1, .int .i64 2, .int .i64 3, .bool false, .int .i64 a]) rfl (by kernel_rfl) (by simp [Value.oneCell']); have hb2 := hbz.drew.trans (hb2.mono hbz.drew.size); have hb4 : Below w1.heap.size w1 (w2.setRow w1.heap.size #[.int .i64 1, .int .i64 2, .int .i64 3, .bool false, .int .i64 a]) := ((Upd.below (S := fun k => k = w1.heap.size) hb2).trans (Upd.setRow _ _ rfl)).toBelow (Nat.le_refl _) (fun k hk e => by omega); have hS2 := HKK.out w2 hb2; have hS4 := HKK.out _ hb4; have HB4 := Lib.hid hb4; have HRT := Lib.hid (hr2.setRow #[.int .i64 1, .int .i64 2, .int .i64 3, .bool false, .int .i64 a]); clear hb2 hb4 hr2; obtain ⟨w5, hw5⟩ : ∃ w5, w5 = w2.setRow w1.heap.size #[.int .i64 1, .int .i64 2, .int .i64 3, .bool false, .int .i64 a] := ⟨_, rfl⟩; rw [← hw5] at hst hS4 HB4 HRT; clear hw5)))
  all_goals
    have hb5 := HB4.out
    have HR5 := Lib.hid (HR.out.keep hb5)
    have hr1 := HR1.out.keep hb5
    have e0 : w5.cell? ⟨w.heap.size, 0, none⟩ = some (.int .i64 7) := (hb5.cell (p := ⟨w.heap.size, 0, none⟩) (World.block_lt_of_cell? w1 _ d0)).trans d0
    have l1 := tld_callR hr1 HAS.out
    have l2 := HRT.out.ld0 (d := _) Tryz.underlying160 rfl (by kernel_rfl)
    have HB5 := Lib.hid (HB.out.trans (hb5.mono HB.out.size))
    have HC5 := Lib.hid (HC.out w5 (H0.out.trans (HB5.out.mono H0.out.size)))
    have HL5 := Lib.hid (Nat.lt_of_lt_of_le HLT.out hb5.size)
    clear hb5 hr1 hS1 hS2 hS4 hst hbd hbz HKK HRT HB4 HC HG HR HR1 HB HLT d0 d1 q6
    (try clear hS3)
    go_wp2_with (go_at_call 82; refine HC5.out.mono ?_; rintro e6 w6 ⟨X, rfl, hX, hone, hu, ho⟩; have hr := ans_row H0.out HR5.out (Nat.le_succ _) hu; have hst := ans_st hr hX hone; have HLD := Lib.hid (ans_ldV hr hX); have HP := Lib.hid (HOK.out.put (C := X) H0.out HB5.out hu ho (Nat.le_succ _) HL5.out); have HX := Lib.hid (And.intro hX hone); clear hr hX hone hu ho; generalize w6.setRow (w.heap.size + 1) X = w7 at *)
    exact bodyPost_ret (v := .agg X) (by rw [results_cell1 rfl]; simp [asAddr, Result.andThen, HLD.out]) rfl ⟨X, rfl, HX.out.1, HX.out.2, HP.out.1, HP.out.2⟩
set_option maxRecDepth 100000 in
set_option maxHeartbeats 1000000 in
theorem doW_is {K : Nat} {q : Int} (ok : OutOk w0 Out) {num : Int} (hn : num = 7 ∨ num = 8 ∨ num = 9) (hA : A.size = 7) (ha : A[0]? = some (.int .i64 num)) (hs : Spec w0 Out 38 #[.pointer (some ⟨K, 0, none⟩), .int .i64 q, .agg A]) :
    Spec w0 Out 18 #[.pointer (some ⟨K, 0, none⟩), .int .i64 q, .agg A] := by
  intro w h0
  have hb1 := Go.Joins.below_alloc1 w (.cells A 37)
  have hal : Below w.heap.size w ((w.alloc (.cells A 37)).alloc (.cells ansZ 34)) := hb1.trans ((Go.Joins.below_alloc1 _ _).mono hb1.size)
  have hr1 := (row_new w 37 A).alloc (.cells ansZ 34)
  have hr2 := row_new (w.alloc (.cells A 37)) 34 ansZ
  rw [size_alloc1] at hr2
  have d0 : ((w.alloc (.cells A 37)).alloc (.cells ansZ 34)).cell? ⟨w.heap.size, 0, none⟩ = some (.int .i64 num) := by rw [hr1.cell, ha]
  have l2 := ld_callR hr1 hA
  have HR : Hid (Row ((w.alloc (.cells A 37)).alloc (.cells #[.int .i64 0, .int .i64 0, .int .i64 0, .slice none 0 0, .slice none 0 0, .int .i64 0, .int .i64 0, .int .i64 0, .int .i64 0, .int .i64 0, .int .i64 0] 34)) (w.heap.size + 1) 34 ansZ) := Lib.hid hr2
  have HB := Lib.hid hal
  have HC := Lib.hid (hs _ (h0.trans (hal.mono h0.size)))
  have HOK := Lib.hid ok
  have H0 := Lib.hid h0
  have HLT := Lib.hid hr2.lt
  clear hal hr1 hr2 hA hs ok h0 ha hb1
  have hz : ansZ = #[.int .i64 0, .int .i64 0, .int .i64 0, .slice none 0 0, .slice none 0 0, .int .i64 0, .int .i64 0, .int .i64 0, .int .i64 0, .int .i64 0, .int .i64 0] := rfl
  rw [hz] at d0 l2 HB HC HLT
  rcases hn with rfl | rfl | rfl
  all_goals
    go_enter Tryz.func18, Tryz.ntmps18
    go_upto_region 1 with fail
    generalize (w.alloc (.cells A 37)).alloc (.cells #[.int .i64 0, .int .i64 0, .int .i64 0, .slice none 0 0, .slice none 0 0, .int .i64 0, .int .i64 0, .int .i64 0, .int .i64 0, .int .i64 0, .int .i64 0] 34) = w1 at *
    go_wp2_with (go_at_call 38; refine HC.out.mono ?_; rintro e2 w2 ⟨X, rfl, hX, hone, hu, ho⟩; have hr := ans_row H0.out HR.out (Nat.le_succ _) hu; have hst := ans_st hr hX hone; have HLD := Lib.hid (ans_ldV hr hX); have HP := Lib.hid (HOK.out.put (C := X) H0.out HB.out hu ho (Nat.le_succ _) HLT.out); have HX := Lib.hid (And.intro hX hone); clear hr hX hone hu ho; generalize w2.setRow (w.heap.size + 1) X = w3 at *)
    exact bodyPost_ret (v := .agg X) (by rw [results_cell1 rfl]; simp [asAddr, Result.andThen, HLD.out]) rfl ⟨X, rfl, HX.out.1, HX.out.2, HP.out.1, HP.out.2⟩
end
end Go.Proofs.YtlfemcbfclallaaGreatDoor
namespace Go.Proofs.YtlfemcbfclallaaGreatDoor
open Go.RowKit
set_option linter.unusedVariables false
set_option linter.unusedSimpArgs false
section
variable {w0 w : World} {k : KC} {s : KSt} {fc : FC} {x : FM} {p : Nat} {A : Array Value}
attribute [local go_sem ↓] bd_ans ld_ans st_ans ld_call ld_thg st_thg
set_option maxRecDepth 100000 in
set_option maxHeartbeats 1000000 in
theorem specS_is (h : KF w0 k s fc x) (p1 : 1 ≤ p) (p16 : p ≤ 16) {j k0 : Nat} (hj : j < 8) (hd : s.fd (p * 8 + j) = k0 + 1) {a : Int} (hF : OpenLaw.thing (s.fs k0) = .agg (thF a)) (hA : A.size = 7) (ha : A[0]? = some (.int .i64 9)) (ha1 : A[1]? = some (.int .i64 j)) {b : Int} (ha2 : A[2]? = some (.int .i64 b)) (hb0 : 0 ≤ b ∧ b ≤ 512) :
    Spec w0 (KOutD w0.heap.size k fc s.tag x.bs (fun s' x' e a c l => e = 0 ∧ s' = SeekTo s k0 b ∧ x' = x ∧ l = [])) 38 #[.pointer (some ⟨k.K, 0, none⟩), .int .i64 p, .agg A] := by
  intro w h0
  obtain ⟨hb, r1, r2⟩ := alloc2f w (.cells A 37) (.cells ansZ 34)
  have d0 := cell_of_row _ w.heap.size 0 _ _ (0, 0) r1
  rw [ha] at d0
  have d1 := cell_of_row _ w.heap.size 1 _ _ (0, 0) r1
  rw [ha1] at d1
  have h01 := h0.trans (hb.mono h0.size)
  have q6 : ((w.alloc (.cells A 37)).alloc (.cells ansZ 34)).cell? ⟨k.K, 6, none⟩ = some (.pointer (some ⟨k.Fi, 0, none⟩)) := by rw [(h.keep h01).kt.kr.cell (by decide), h.kt.c6]
  have hz1 : thF a = #[.int .i64 1, .int .i64 2, .int .i64 3, .bool false, .int .i64 a] := rfl
  rw [hz1] at hF
  have HG : Hid (∀ wx, Below ((w.alloc (.cells A 37)).alloc (.cells ansZ 34)).heap.size ((w.alloc (.cells A 37)).alloc (.cells ansZ 34)) wx → Calls Tryz.prog 81 #[.pointer (some ⟨k.Fi, 0, none⟩), .int .i64 p, .int .i64 j] wx fun e w' => e = .returned (.tuple #[.agg #[.int .i64 1, .int .i64 2, .int .i64 3, .bool false, .int .i64 a], .int .i64 0]) ∧ Below wx.heap.size wx w') := Lib.hid fun wx hx => hF ▸ OpenLaw.get_is ((h.keep h01).keep hx).kt.fi p1 p16 hj hd
  have HR1 : Hid (Row ((w.alloc (.cells A 37)).alloc (.cells ansZ 34)) w.heap.size 37 A) := Lib.hid r1
  have HR : Hid (Row ((w.alloc (.cells A 37)).alloc (.cells ansZ 34)) (w.heap.size + 1) 34 ansZ) := Lib.hid r2
  have HB := Lib.hid hb
  have H0 := Lib.hid h0
  have HK := Lib.hid h.kt.kr.lt
  have HLT : Hid (w.heap.size + 1 < ((w.alloc (.cells A 37)).alloc (.cells ansZ 34)).heap.size) := Lib.hid HR.out.lt
  have HAS := Lib.hid hA
  have HKz := Lib.hid h
  have HPP := Lib.hid (And.intro p1 (And.intro p16 (And.intro hj (And.intro hd (And.intro hb0 ha2)))))
  clear hb r1 r2 hA ha h0 h hd hF h01 p1 p16 hj hb0 ha2
  have hzz : ansZ = #[.int .i64 0, .int .i64 0, .int .i64 0, .slice none 0 0, .slice none 0 0, .int .i64 0, .int .i64 0, .int .i64 0, .int .i64 0, .int .i64 0, .int .i64 0] := rfl
  rw [hzz] at d0 d1 q6 HG HR1 HB HLT
  have HR : Hid (Row ((w.alloc (.cells A 37)).alloc (.cells #[.int .i64 0, .int .i64 0, .int .i64 0, .slice none 0 0, .slice none 0 0, .int .i64 0, .int .i64 0, .int .i64 0, .int .i64 0, .int .i64 0, .int .i64 0] 34)) (w.heap.size + 1) 34 ansZ) := HR
  go_enter Tryz.func38, Tryz.ntmps38
  go_upto_region 1 with fail
  generalize (w.alloc (.cells A 37)).alloc (.cells #[.int .i64 0, .int .i64 0, .int .i64 0, .slice none 0 0, .slice none 0 0, .int .i64 0, .int .i64 0, .int .i64 0, .int .i64 0, .int .i64 0, .int .i64 0] 34) = w1 at *
  go_upto_region 16 with fail
  have HKK : Hid (∀ w2, Below w1.heap.size w1 w2 → w2.cell? ⟨k.K, 6, none⟩ = some (.pointer (some ⟨k.Fi, 0, none⟩)) ∧ w2.cell? ⟨w.heap.size, 1, none⟩ = some (.int .i64 j)) := Lib.hid fun w2 hu => ⟨(hu.cell (p := ⟨k.K, 6, none⟩) (World.block_lt_of_cell? w1 _ q6)).trans q6, (hu.cell (p := ⟨w.heap.size, 1, none⟩) (World.block_lt_of_cell? w1 _ d1)).trans d1⟩
  have hbd := (Below.refl w1.heap.size w1).drew
  have hbz := Go.Joins.below_alloc1 w1 (.cells #[.int .i64 0, .int .i64 0, .int .i64 0, .bool false, .int .i64 0] 160)
  have hS1 := HKK.out _ hbz.drew
  go_region_held3 (fun wx => wx.cell? ⟨k.K, 6, none⟩ = some (.pointer (some ⟨k.Fi, 0, none⟩)) ∧ wx.cell? ⟨w.heap.size, 1, none⟩ = some (.int .i64 j)) (first | exact ⟨q6, d1⟩ | exact hS1 | exact hS2 | exact hS3 | exact hS4 | assumption)
    (first | ((go_at_call 81; (with_reducible refine (HG.out w1.drew hbd).mono ?_); rintro e2 w2 ⟨rfl, hb2⟩; have hb2 := hbd.trans hb2; have hb3 := hb2.trans ((Go.Joins.below_alloc1 w2 (.cells #[.int .i64 0, .int .i64 0, .int .i64 0, .bool false, .int .i64 0] 160)).mono hb2.size); have hst := st0_new w2 (T := 160) (c := #[.int .i64 0, .int .i64 0, .int .i64 0, .bool false, .int .i64 0]) (cs := #[.int .i64 1, .int .i64 2, .int .i64 3, .bool false, .int .i64 a]) rfl (by kernel_rfl) (by simp [Value.oneCell']); have hb4 := hb2.trans ((Go.Joins.below_alloc1 w2 (.cells #[.int .i64 1, .int .i64 2, .int .i64 3, .bool false, .int .i64 a] 160)).mono hb2.size); have hS2 := HKK.out w2 hb2; have hS3 := HKK.out _ hb3; have hS4 := HKK.out _ hb4; have HB4 := Lib.hid hb4; have HRT := Lib.hid (row_new w2 160 #[.int .i64 1, .int .i64 2, .int .i64 3, .bool false, .int .i64 a]); clear hb2 hb3 hb4; obtain ⟨w5, hw5⟩ : ∃ w5, w5 = w2.alloc (.cells #[.int .i64 1, .int .i64 2, .int .i64 3, .bool false, .int .i64 a] 160) := ⟨_, rfl⟩; rw [← hw5] at hst hS4 HB4 HRT; clear hw5)) | ((go_at_call 81; (with_reducible refine (HG.out _ hbz.drew).mono ?_); rintro e2 w2 ⟨rfl, hb2⟩; have hr2 := (row_new w1 160 #[.int .i64 0, .int .i64 0, .int .i64 0, .bool false, .int .i64 0]).drew.keep hb2; have hst := hr2.st0 (cs := #[.int .i64 1, .int .i64 2, .int .i64 3, .bool false, .int .i64 a]) rfl (by kernel_rfl) (by simp [Value.oneCell']); have hb2 := hbz.drew.trans (hb2.mono hbz.drew.size); have hb4 : Below w1.heap.size w1 (w2.setRow w1.heap.size #[.int .i64 1, .int .i64 2, .int .i64 3, .bool false, .int .i64 a]) := ((Upd.below (S := fun k => k = w1.heap.size) hb2).trans (Upd.setRow _ _ rfl)).toBelow (Nat.le_refl _) (fun k hk e => by omega); have hS2 := HKK.out w2 hb2; have hS4 := HKK.out _ hb4; have HB4 := Lib.hid hb4; have HRT := Lib.hid (hr2.setRow #[.int .i64 1, .int .i64 2, .int .i64 3, .bool false, .int .i64 a]); clear hb2 hb4 hr2; obtain ⟨w5, hw5⟩ : ∃ w5, w5 = w2.setRow w1.heap.size #[.int .i64 1, .int .i64 2, .int .i64 3, .bool false, .int .i64 a] := ⟨_, rfl⟩; rw [← hw5] at hst hS4 HB4 HRT; clear hw5)))
  all_goals
    have hb5 := HB4.out
    have HR5 := Lib.hid (HR.out.keep hb5)
    have HC5 := Lib.hid (HR1.out.keep hb5)
    have e0 : w5.cell? ⟨w.heap.size, 0, none⟩ = some (.int .i64 9) := (hb5.cell (p := ⟨w.heap.size, 0, none⟩) (World.block_lt_of_cell? w1 _ d0)).trans d0
    have f0 := (HRT.out.cell 0).trans (show _ = some (Value.int .i64 1) from rfl)
    have HB5 := Lib.hid (HB.out.trans (hb5.mono HB.out.size))
    have HK5 := Lib.hid (HKz.out.keep (H0.out.trans (HB5.out.mono H0.out.size)))
    have HL5 := Lib.hid (Nat.lt_of_lt_of_le HLT.out hb5.size)
    clear hb5 hS1 hS2 hS4 hst hbd hbz HKK HRT HB4 HG HR HR1 HB HLT d0 d1 q6
    (try clear hS3)
    go_upto_region 26 with fail
    have hKF : k.K ≠ k.Fi := fun e => by
      have t1 := HKz.out.kt.tK
      rw [e, HKz.out.kt.tFi] at t1
      cases t1
    have hFi : k.Fi < w0.heap.size := HKz.out.kt.lt (by rw [HKz.out.kt.tFi]; decide)
    have hz0 := H0.out.size
    have HT : Hid (∀ wx, Below w5.heap.size w5 wx → (wx.cell? ⟨k.K, 6, none⟩ = some (.pointer (some ⟨k.Fi, 0, none⟩)) ∧ wx.cell? ⟨w.heap.size, 1, none⟩ = some (.int .i64 j) ∧ wx.cell? ⟨w.heap.size, 2, none⟩ = some (.int .i64 b))) := Lib.hid (fun wx hb => ⟨by rw [(HK5.out.keep hb).kt.kr.cell (by decide), HK5.out.kt.c6], ((HC5.out.keep hb).cell 1).trans ha1, ((HC5.out.keep hb).cell 2).trans HPP.out.2.2.2.2.2⟩)
    have HT4 : Hid (∀ wx w', Below w5.heap.size w5 wx → Upd (fun i => i = k.Fi ∨ i = w.heap.size + 1) wx w' → (w'.cell? ⟨k.K, 6, none⟩ = some (.pointer (some ⟨k.Fi, 0, none⟩)) ∧ w'.cell? ⟨w.heap.size, 1, none⟩ = some (.int .i64 j) ∧ w'.cell? ⟨w.heap.size, 2, none⟩ = some (.int .i64 b))) := Lib.hid (fun wx w' hb hu => by
      obtain ⟨t1, t2, t3⟩ := HT.out wx hb
      have lt : ∀ {b o v}, wx.cell? ⟨b, o, none⟩ = some v → b < wx.heap.size := fun e => World.block_lt_of_cell? wx _ e
      exact ⟨(hu.cell (lt t1) (by have := HKz.out.kt.lt (j := k.K) (by rw [HKz.out.kt.tK]; decide); omega)).trans t1, (hu.cell (lt t2) (by omega)).trans t2, (hu.cell (lt t3) (by omega)).trans t3⟩)
    have HSK : Hid (∀ wx, Below w5.heap.size w5 wx → Calls Tryz.prog 84 #[.pointer (some ⟨k.Fi, 0, none⟩), .int .i64 p, .int .i64 j, .int .i64 b] wx fun e w' => e = .returned (.int .i64 0) ∧ OpenLaw.OTab w' k.Fi (OpenLaw.updF s.fs k0 { s.fs k0 with pos := b }) s.fd ∧ Upd (fun i => i = k.Fi) wx w') := Lib.hid (fun wx hb => by
      refine (OpenLaw.seek_is (HK5.out.keep hb).kt.fi HPP.out.1 HPP.out.2.1 HPP.out.2.2.1 HPP.out.2.2.2.1 (at' := b) HPP.out.2.2.2.2.1.1 HPP.out.2.2.2.2.1.2).mono ?_
      rintro e w' ⟨rfl, hkb, ho⟩
      exact ⟨rfl, ho, kb_upd hkb rfl⟩)
    obtain ⟨hX, hone⟩ := ansN3' 0 0 0
    have HANS : Hid (∀ w6 w7, Upd (fun i => i = k.Fi) w5 w6 → Below w6.heap.size w6 w7 → Row w7 (w.heap.size + 1) 34 ansZ) := Lib.hid (fun w6 w7 hu hb => (HR5.out.upd hu (by omega)).keep hb)
    go_region_held3 (fun wx => wx.cell? ⟨k.K, 6, none⟩ = some (.pointer (some ⟨k.Fi, 0, none⟩)) ∧ wx.cell? ⟨w.heap.size, 1, none⟩ = some (.int .i64 j) ∧ wx.cell? ⟨w.heap.size, 2, none⟩ = some (.int .i64 b)) (first | (with_reducible exact HT.out _ (Below.refl _ _)) | (with_reducible exact HT.out _ (Below.refl _ _).drew) | (with_reducible exact HT4.out _ _ (Below.refl _ _).drew (HU4.out.mono fun i _ e => .inl e)) | (with_reducible exact HT4.out _ _ (Below.refl _ _).drew HU6.out) | (exact HT4.out _ _ (Below.refl _ _).drew (HU6.out.trans (Upd.setRow _ _ (.inr rfl)))) | fail) (first | (go_at_call 84; (with_reducible refine (HSK.out _ (Below.refl _ _).drew).mono ?_); rintro e4 v4 ⟨rfl, ho4, hu4⟩; have HU4 := Lib.hid hu4; have HO4 := Lib.hid ho4; clear ho4 hu4) | (go_at_call 14; (with_reducible refine (fail_is _ _).mono ?_); rintro e6 v6 ⟨rfl, hb6⟩; have HB6 := Lib.hid hb6; have HU6 : Hid (Upd (fun i => i = k.Fi ∨ i = w.heap.size + 1) w5.drew v6) := Lib.hid ((HU4.out.mono fun i _ e => .inl e).trans (Upd.below hb6)); have hr6 := HANS.out _ _ ((Upd.drew w5).trans HU4.out) hb6; have hst := ans_st hr6 hX hone; have HLD := Lib.hid (ans_ldV hr6 hX); clear hb6 hr6) | fail)
    have hu7 : Upd (fun i => i = w.heap.size + 1) v6 (v6.setRow (w.heap.size + 1) (ansV 0 0 0 (.slice none 0 0))) := Upd.setRow v6 _ rfl
    have HFIN : Hid (KF (v6.setRow (w.heap.size + 1) (ansV 0 0 0 (.slice none 0 0))) k (SeekTo s k0 b) fc x ∧ Upd (fun i => i = k.Fi ∨ w.heap.size ≤ i) w (v6.setRow (w.heap.size + 1) (ansV 0 0 0 (.slice none 0 0)))) := Lib.hid (by
      have hz : ∀ i, s.tag i ≠ 0 → i < w0.heap.size := fun i e => HKz.out.kt.lt e
      have hzz : ∀ i, x.bs i → i < w0.heap.size := HKz.out.fs.lt
      refine ⟨((((HK5.out.keep (Below.refl _ _).drew).files HO4.out HU4.out).keep HB6.out).upd hu7 (fun i hi e => by have := hz i hi; omega) (fun i hi e => by have := hzz i hi; omega)), ?_⟩
      exact (((Upd.below HB5.out).trans (Upd.drew w5)).trans ((HU4.out.mono fun i _ e => .inl e).trans (Upd.below HB6.out))).trans (hu7.mono fun i _ e => .inr (by omega)))
    have HTF := Lib.hid HKz.out.kt.tFi
    clear HT HT4 HSK HANS hu7 hKF HU4 HO4 HU6 hst
    generalize hZ : ansV 0 0 0 (.slice none 0 0) = Z at HLD HFIN hX hone ⊢
    have HZ := Lib.hid hZ
    clear hZ
    go_wp2_with fail
    exact bodyPost_ret (v := .agg Z) (by rw [results_cell1 rfl]; simp [asAddr, Result.andThen, HLD.out]) rfl ⟨Z, rfl, hX, hone, HFIN.out.2.mono (fun i hi e => by omega), SeekTo s k0 b, x, 0, 0, 0, .slice none 0 0, [], HFIN.out.1, fun i e => .inl e, fun i e => .inl e, by rw [HZ.out], OB.nil _ _, fun i e => (by cases e), ⟨rfl, rfl, rfl, rfl⟩, HFIN.out.2.mono fun i _ e => by
      rcases e with rfl | e
      · left; rw [HTF.out]; decide
      · exact .inr (.inr e)⟩
end
end Go.Proofs.YtlfemcbfclallaaGreatDoor
