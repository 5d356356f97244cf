/- The walk of the kernel's descriptor: write, close. What is asked of the kernel at one pipe: the four calls, whole. -/
import Derived.Test.YthdpeecahpedeaaGreatDoorPipeP
namespace Go.Proofs.YthdpeecahpedeaaGreatDoor
open Go.RowKit
set_option linter.unusedVariables false
set_option linter.unusedSimpArgs false
section
variable {w0 w w1 w4 : World} {K Pr P Fi : Nat} {c : Nat → Value} {s : St} {A : Array Value} {Out : World → Array Value → World → Prop}
attribute [local go_sem ↓] bd_ans ld_ans st_ans ld_call ld_thing st_thing
set_option maxRecDepth 100000 in
set_option maxHeartbeats 1000000 in
theorem desc_write (ok : OutOk w0 Out) (hk : KB4 w0 K Pr P Fi c) {fs : Nat → OpenLaw.F} {fd : Nat → Nat} (hf : OpenLaw.OTab w0 Fi fs fd) (hd : fd 9 = 2) (hF : fs 1 = gv) (hA : A.size = 7) (ha : A[0]? = some (.int .i64 8)) (ha1 : A[1]? = some (.int .i64 1)) (hs : Spec w0 Out 79 #[.pointer (some ⟨K, 0, none⟩), .int .i64 1, .agg A, .agg #[.int .i64 3, .int .i64 1, .int .i64 2, .bool false, .int .i64 0]]) :
    Spec w0 Out 35 #[.pointer (some ⟨K, 0, none⟩), .int .i64 1, .agg A] := by
  intro w h0
  obtain ⟨hb, r1, r2⟩ := alloc2 w (.cells A 36) (.cells ansL 33)
  have d0 := cell_of_row _ w.heap.size 0 _ _ (0, 0) r1
  rw [ha] at d0
  have d1 := cell_of_row _ w.heap.size 1 _ _ (0, 0) r1
  rw [ha1] at d1
  have h01 := h0.trans (hb.mono h0.size)
  have q6 := (hk.keep h01).q6
  have HG : Hid (∀ wx, Below ((w.alloc (.cells A 36)).alloc (.cells ansL 33)).heap.size ((w.alloc (.cells A 36)).alloc (.cells ansL 33)) wx → Calls Tryz.prog 77 #[.pointer (some ⟨Fi, 0, none⟩), .int .i64 1, .int .i64 1] wx fun e w' => e = .returned (.tuple #[.agg #[.int .i64 3, .int .i64 1, .int .i64 2, .bool false, .int .i64 0], .int .i64 0]) ∧ Below wx.heap.size wx w') := Lib.hid fun wx hx => get1_is ((hf.keep h01).keep hx) hd hF
  have HR1 : Hid (Row ((w.alloc (.cells A 36)).alloc (.cells ansL 33)) w.heap.size 36 A) := Lib.hid r1
  have HR : Hid (Row ((w.alloc (.cells A 36)).alloc (.cells ansL 33)) (w.heap.size + 1) 33 ansZ) := Lib.hid r2
  have HB := Lib.hid hb
  have HC := Lib.hid hs
  have HOK := Lib.hid ok
  have H0 := Lib.hid h0
  have HK := Lib.hid hk.kq.kr.lt
  have HLT : Hid (w.heap.size + 1 < ((w.alloc (.cells A 36)).alloc (.cells ansL 33)).heap.size) := Lib.hid HR.out.lt
  have HAS := Lib.hid hA
  clear hb r1 r2 hA ha hs ok h0 hk hf hd hF h01
  unfold ansL at *
  go_enter Tryz.func35, Tryz.ntmps35
  go_upto_region 1 with fail
  generalize (w.alloc (.cells A 36)).alloc (.cells #[.int .i64 0, .int .i64 0, .int .i64 0, .slice none 0 0, .slice none 0 0, .int .i64 0, .int .i64 0, .int .i64 0, .int .i64 0, .int .i64 0, .int .i64 0] 33) = w1 at *
  go_upto_region 16 with fail
  have HKK : Hid (∀ w2, Below w1.heap.size w1 w2 → w2.cell? ⟨K, 6, none⟩ = some (.pointer (some ⟨Fi, 0, none⟩)) ∧ w2.cell? ⟨w.heap.size, 1, none⟩ = some (.int .i64 1)) := Lib.hid fun w2 hu => ⟨(hu.cell (p := ⟨K, 6, none⟩) (World.block_lt_of_cell? w1 _ q6)).trans q6, (hu.cell (p := ⟨w.heap.size, 1, none⟩) (World.block_lt_of_cell? w1 _ d1)).trans d1⟩
  have hbd := (Below.refl w1.heap.size w1).drew
  have hbz := Go.Joins.below_alloc1 w1 (.cells #[.int .i64 0, .int .i64 0, .int .i64 0, .bool false, .int .i64 0] 156)
  have hS1 := HKK.out _ hbz.drew
  go_region_held3 (fun wx => wx.cell? ⟨K, 6, none⟩ = some (.pointer (some ⟨Fi, 0, none⟩)) ∧ wx.cell? ⟨w.heap.size, 1, none⟩ = some (.int .i64 1)) (first | exact ⟨q6, d1⟩ | exact hS1 | exact hS2 | exact hS3 | exact hS4 | assumption)
    (first | ((go_at_call 77; (with_reducible refine (HG.out w1.drew hbd).mono ?_); rintro e2 w2 ⟨rfl, hb2⟩; have hb2 := hbd.trans hb2; have hb3 := hb2.trans ((Go.Joins.below_alloc1 w2 (.cells #[.int .i64 0, .int .i64 0, .int .i64 0, .bool false, .int .i64 0] 156)).mono hb2.size); have hst := st0_new w2 (T := 156) (c := #[.int .i64 0, .int .i64 0, .int .i64 0, .bool false, .int .i64 0]) (cs := #[.int .i64 3, .int .i64 1, .int .i64 2, .bool false, .int .i64 0]) rfl (by kernel_rfl) (by simp [Value.oneCell']); have hb4 := hb2.trans ((Go.Joins.below_alloc1 w2 (.cells #[.int .i64 3, .int .i64 1, .int .i64 2, .bool false, .int .i64 0] 156)).mono hb2.size); have hS2 := HKK.out w2 hb2; have hS3 := HKK.out _ hb3; have hS4 := HKK.out _ hb4; have HB4 := Lib.hid hb4; have HRT := Lib.hid (row_new w2 156 #[.int .i64 3, .int .i64 1, .int .i64 2, .bool false, .int .i64 0]); clear hb2 hb3 hb4; obtain ⟨w5, hw5⟩ : ∃ w5, w5 = w2.alloc (.cells #[.int .i64 3, .int .i64 1, .int .i64 2, .bool false, .int .i64 0] 156) := ⟨_, rfl⟩; rw [← hw5] at hst hS4 HB4 HRT; clear hw5)) | ((go_at_call 77; (with_reducible refine (HG.out _ hbz.drew).mono ?_); rintro e2 w2 ⟨rfl, hb2⟩; have hr2 := (row_new w1 156 #[.int .i64 0, .int .i64 0, .int .i64 0, .bool false, .int .i64 0]).drew.keep hb2; have hst := hr2.st0 (cs := #[.int .i64 3, .int .i64 1, .int .i64 2, .bool false, .int .i64 0]) rfl (by kernel_rfl) (by simp [Value.oneCell']); have hb2 := hbz.drew.trans (hb2.mono hbz.drew.size); have hb4 : Below w1.heap.size w1 (w2.setRow w1.heap.size #[.int .i64 3, .int .i64 1, .int .i64 2, .bool false, .int .i64 0]) := ((Upd.below (S := fun k => k = w1.heap.size) hb2).trans (Upd.setRow _ _ rfl)).toBelow (Nat.le_refl _) (fun k hk e => by omega); have hS2 := HKK.out w2 hb2; have hS4 := HKK.out _ hb4; have HB4 := Lib.hid hb4; have HRT := Lib.hid (hr2.setRow #[.int .i64 3, .int .i64 1, .int .i64 2, .bool false, .int .i64 0]); clear hb2 hb4 hr2; obtain ⟨w5, hw5⟩ : ∃ w5, w5 = w2.setRow w1.heap.size #[.int .i64 3, .int .i64 1, .int .i64 2, .bool false, .int .i64 0] := ⟨_, rfl⟩; rw [← hw5] at hst hS4 HB4 HRT; clear hw5)))
  all_goals
    have hb5 := HB4.out
    have HR5 := Lib.hid (HR.out.keep hb5)
    have hr1 := HR1.out.keep hb5
    have e0 : w5.cell? ⟨w.heap.size, 0, none⟩ = some (.int .i64 8) := (hb5.cell (p := ⟨w.heap.size, 0, none⟩) (World.block_lt_of_cell? w1 _ d0)).trans d0
    have l1 := ld_callR hr1 HAS.out
    have l2 := HRT.out.ld0 (d := _) Tryz.underlying156 rfl (by kernel_rfl)
    have HB5 := Lib.hid (HB.out.trans (hb5.mono HB.out.size))
    have HC5 := Lib.hid (HC.out w5 (H0.out.trans (HB5.out.mono H0.out.size)))
    have HL5 := Lib.hid (Nat.lt_of_lt_of_le HLT.out hb5.size)
    clear hb5 hr1 hS1 hS2 hS4 hst hbd hbz HKK HRT HB4 HC HG HR HR1 HB HLT d0 d1 q6
    (try clear hS3)
    go_wp2_with (go_at_call 79; refine HC5.out.mono ?_; rintro e6 w6 ⟨X, rfl, hX, hone, hu, ho⟩; have hr := ans_row H0.out HR5.out (Nat.le_succ _) hu; have hst := ans_st hr hX hone; have HLD := Lib.hid (ans_ldV hr hX); have HP := Lib.hid (HOK.out.put (C := X) H0.out HB5.out hu ho (Nat.le_succ _) HL5.out); have HX := Lib.hid (And.intro hX hone); clear hr hX hone hu ho; generalize w6.setRow (w.heap.size + 1) X = w7 at *)
    exact bodyPost_ret (v := .agg X) (by rw [results_cell1 rfl]; simp [asAddr, Result.andThen, HLD.out]) rfl ⟨X, rfl, HX.out.1, HX.out.2, HP.out.1, HP.out.2⟩
theorem close1_is (hf : OpenLaw.OTab w Fi pf2 pd2) : Calls Tryz.prog 75 #[.pointer (some ⟨Fi, 0, none⟩), .int .i64 1, .int .i64 1] w fun e w' => e = .returned (.tuple #[.agg #[.int .i64 3, .int .i64 1, .int .i64 2, .bool false, .int .i64 0], .bool true, .int .i64 0]) ∧ OpenLaw.KB Fi w w' ∧ OpenLaw.OTab w' Fi pf3 pd3 :=
  OpenLaw.close_is hf (p := 1) (by decide) (by decide) (j := 1) (by decide) (k := 1) rfl (by decide) (by decide)
def TClose (s0 s : St) (dl : List Int) (e : Int) : Prop := s.fs = pf3 ∧ s.fd = pd3 ∧ s.e1 = 0 ∧ s.l = s0.l ∧ e = 0 ∧ dl = []
def closedS (s : St) : St := { s with e1 := 0, fs := pf3, fd := pd3 }
set_option maxRecDepth 100000 in
set_option maxHeartbeats 1000000 in
theorem desc_close (h : PSt w0 K Pr P Fi c s) (he : s.e1 = 1) (hfs : s.fs = pf2) (hfd : s.fd = pd2) (hA : A.size = 7) (ha : A[0]? = some (.int .i64 6)) (ha1 : A[1]? = some (.int .i64 1)) :
    Spec w0 (POut w0.heap.size (fun k => k = Fi ∨ k = s.O) K Pr P Fi c (fun s' dl e a b => TClose s s' dl e ∧ VN w0.heap.size s s')) 35 #[.pointer (some ⟨K, 0, none⟩), .int .i64 1, .agg A] := by
  intro w h0
  obtain ⟨hb, r1, r2⟩ := alloc2 w (.cells A 36) (.cells ansL 33)
  have d0 := cell_of_row _ w.heap.size 0 _ _ (0, 0) r1
  rw [ha] at d0
  have d1 := cell_of_row _ w.heap.size 1 _ _ (0, 0) r1
  rw [ha1] at d1
  have h01 := h0.trans (hb.mono h0.size)
  have hs1 := h.keep h01
  have q6 := hs1.k.q6
  have hot := hs1.ot
  rw [hfs, hfd] at hot
  have HG : Hid (∀ wx, Below ((w.alloc (.cells A 36)).alloc (.cells ansL 33)).heap.size ((w.alloc (.cells A 36)).alloc (.cells ansL 33)) wx → Calls Tryz.prog 75 #[.pointer (some ⟨Fi, 0, none⟩), .int .i64 1, .int .i64 1] wx fun e w' => e = .returned (.tuple #[.agg #[.int .i64 3, .int .i64 1, .int .i64 2, .bool false, .int .i64 0], .bool true, .int .i64 0]) ∧ OpenLaw.KB Fi wx w' ∧ OpenLaw.OTab w' Fi pf3 pd3) := Lib.hid fun wx hx => close1_is (hot.keep hx)
  have HR : Hid (Row ((w.alloc (.cells A 36)).alloc (.cells ansL 33)) (w.heap.size + 1) 33 ansZ) := Lib.hid r2
  have HB := Lib.hid hb
  have H0 := Lib.hid h0
  have HS1 := Lib.hid hs1
  have HLO := Lib.hid h.old
  have HFA := Lib.hid (And.intro h.pi.ol (fun g hg => (h.pi.ob.lt g hg).2))
  have HE := Lib.hid he
  have HLT : Hid (w.heap.size + 1 < ((w.alloc (.cells A 36)).alloc (.cells ansL 33)).heap.size) := Lib.hid HR.out.lt
  clear hb r1 r2 hA ha h0 h hs1 hot hfs hfd he h01
  unfold ansL at *
  go_enter Tryz.func35, Tryz.ntmps35
  go_upto_region 1 with fail
  generalize (w.alloc (.cells A 36)).alloc (.cells #[.int .i64 0, .int .i64 0, .int .i64 0, .slice none 0 0, .slice none 0 0, .int .i64 0, .int .i64 0, .int .i64 0, .int .i64 0, .int .i64 0, .int .i64 0] 33) = w1 at *
  go_upto_region 7 with fail
  have hFi : Fi < w.heap.size := by have h1 := HLO.out; unfold Old at h1; have := H0.out.size; omega
  have hKF : K ≠ Fi := HS1.out.k.n.2.1
  have HKK : Hid (∀ w2, Upd (fun k => k = Fi) w1 w2 → w2.cell? ⟨K, 6, none⟩ = some (.pointer (some ⟨Fi, 0, none⟩)) ∧ w2.cell? ⟨w.heap.size, 1, none⟩ = some (.int .i64 1)) := Lib.hid fun w2 hu => ⟨(hu.cell (World.block_lt_of_cell? w1 _ q6) hKF).trans q6, (hu.cell (World.block_lt_of_cell? w1 _ d1) (fun (e : w.heap.size = Fi) => by omega)).trans d1⟩
  have hbd := (Below.refl w1.heap.size w1).drew
  have hbz := Go.Joins.below_alloc1 w1 (.cells #[.int .i64 0, .int .i64 0, .int .i64 0, .bool false, .int .i64 0] 156)
  have hS1 := HKK.out _ (Upd.below hbz.drew)
  have hF1 : Fi ≠ w1.heap.size := by have := HLT.out; omega
  go_region_held3 (fun wx => wx.cell? ⟨K, 6, none⟩ = some (.pointer (some ⟨Fi, 0, none⟩)) ∧ wx.cell? ⟨w.heap.size, 1, none⟩ = some (.int .i64 1)) (first | exact ⟨q6, d1⟩ | exact hS1 | exact hS2 | exact hS3 | exact hS4 | assumption)
    (first | ((go_at_call 75; (with_reducible refine (HG.out w1.drew hbd).mono ?_); rintro e2 w2 ⟨rfl, hk2, hf2⟩; have hb2 : Upd (fun k => k = Fi) w1 w2 := (Upd.below hbd).trans (kb_upd hk2 rfl); have hb3 := hb2.trans (Upd.alloc w2 (.cells #[.int .i64 0, .int .i64 0, .int .i64 0, .bool false, .int .i64 0] 156)); have hst := st0_new w2 (T := 156) (c := #[.int .i64 0, .int .i64 0, .int .i64 0, .bool false, .int .i64 0]) (cs := #[.int .i64 3, .int .i64 1, .int .i64 2, .bool false, .int .i64 0]) rfl (by kernel_rfl) (by simp [Value.oneCell']); have hb4 := hb2.trans (Upd.alloc w2 (.cells #[.int .i64 3, .int .i64 1, .int .i64 2, .bool false, .int .i64 0] 156)); have hS2 := HKK.out w2 hb2; have hS3 := HKK.out _ hb3; have hS4 := HKK.out _ hb4; have HB4 := Lib.hid hb4; have HF4 := Lib.hid (hf2.alloc (.cells #[.int .i64 3, .int .i64 1, .int .i64 2, .bool false, .int .i64 0] 156)); have HRT := Lib.hid (row_new w2 156 #[.int .i64 3, .int .i64 1, .int .i64 2, .bool false, .int .i64 0]); clear hb2 hb3 hb4 hk2 hf2; obtain ⟨w5, hw5⟩ : ∃ w5, w5 = w2.alloc (.cells #[.int .i64 3, .int .i64 1, .int .i64 2, .bool false, .int .i64 0] 156) := ⟨_, rfl⟩; rw [← hw5] at hst hS4 HB4 HRT HF4; clear hw5)) | ((go_at_call 75; (with_reducible refine (HG.out _ hbz.drew).mono ?_); rintro e2 w2 ⟨rfl, hk2, hf2⟩; have hr2 := (row_new w1 156 #[.int .i64 0, .int .i64 0, .int .i64 0, .bool false, .int .i64 0]).drew.kept hk2 (by intro e; injection e with e; exact hF1 e.symm); have hst := hr2.st0 (cs := #[.int .i64 3, .int .i64 1, .int .i64 2, .bool false, .int .i64 0]) rfl (by kernel_rfl) (by simp [Value.oneCell']); have hb2 : Upd (fun k => k = Fi) w1 w2 := (Upd.below hbz.drew).trans (kb_upd hk2 rfl); have hsr : Upd (fun k => k = w1.heap.size) w2 (w2.setRow w1.heap.size #[.int .i64 3, .int .i64 1, .int .i64 2, .bool false, .int .i64 0]) := Upd.setRow _ _ rfl; have hb4 := hb2.trans' hsr (fun i hi e => by omega); have hS2 := HKK.out w2 hb2; have hS4 := HKK.out _ hb4; have HB4 := Lib.hid hb4; have HF4 := Lib.hid (hf2.upd hsr hF1); have HRT := Lib.hid (hr2.setRow #[.int .i64 3, .int .i64 1, .int .i64 2, .bool false, .int .i64 0]); clear hb2 hb4 hr2 hsr hk2 hf2; obtain ⟨w5, hw5⟩ : ∃ w5, w5 = w2.setRow w1.heap.size #[.int .i64 3, .int .i64 1, .int .i64 2, .bool false, .int .i64 0] := ⟨_, rfl⟩; rw [← hw5] at hst hS4 HB4 HRT HF4; clear hw5)))
  all_goals
    have hb5 := HB4.out
    have n1 := HS1.out.k.n
    have n2 := HS1.out.n
    have hs5 : PSt w5 K Pr P Fi c { s with fs := pf3, fd := pd3 } := ⟨HS1.out.k.upd hb5 n1.2.1 n1.2.2.2.1, HF4.out, HS1.out.pi.upd hb5 n1.2.2.2.2 n2.2.2 (fun g hg => (HS1.out.nv g hg).2.2), HS1.out.n, HS1.out.nv⟩
    have HR5 := Lib.hid (HR.out.upd hb5 (by omega))
    have l2 := HRT.out.ld0 (d := _) Tryz.underlying156 rfl (by kernel_rfl)
    have HGO := Lib.hid (gone_is hs5 HE.out)
    have HU5 := Lib.hid hb5
    have HL5 := Lib.hid (Nat.lt_of_lt_of_le HLT.out hb5.size)
    clear hb5 hS1 hS2 hS4 hst hbd hbz HKK HRT HB4 HG d0 d1 q6 n1 n2 hs5 HF4
    (try clear hS3)
    go_upto_region 10 with (go_at_call 68; refine HGO.out.mono ?_; rintro e6 w6 ⟨rfl, hp6, hu6⟩; have HFL := Lib.hid (fail_is w6 0); have HP6 := Lib.hid hp6; have HU6 := Lib.hid hu6; clear hp6 hu6)
    have HPP := Lib.hid (fun (w7 : World) (hb7 : Below w6.heap.size w6 w7) => res_end (S := fun k => k = Fi ∨ k = s.O) (w4 := w7) (b := w.heap.size + 1) (e := 0) (a := 0) (r := 0) (d := .slice none 0 0) (dl := []) (T := fun s' dl e a b => TClose s s' dl e ∧ VN w0.heap.size s s') ((HR5.out.upd HU6.out (by have := HFA.out.1; have := H0.out.size; omega)).keep hb7) rfl (HP6.out.keep hb7) HLO.out H0.out.size (Nat.le_succ _) ((Upd.below HB.out).trans ((HU5.out.mono (S' := fun k => k = Fi ∨ k = s.O) (fun i _ e => Or.inl e)).trans ((HU6.out.mono (S' := fun k => k = Fi ∨ k = s.O) (fun i _ e => Or.inr e)).trans (Upd.below hb7)))) (fun i e => by have h1 := HLO.out; unfold Old at h1; have := HFA.out.1; omega) (.inl HFA.out.1) (fun g hg => .inl (HFA.out.2 g hg)) (OB.nil _ _) ⟨⟨rfl, rfl, rfl, rfl, rfl, rfl⟩, rfl, fun g hg => .inl hg⟩)
    generalize ansV 0 0 0 (.slice none 0 0) = X at *
    go_wp2_with (go_at_call 12; refine HFL.out.mono ?_; rintro e7 w7 ⟨rfl, hb7⟩; obtain ⟨w8, hst, hld, hres⟩ := HPP.out w7 hb7; have HLD := Lib.hid hld; have HRES := Lib.hid hres; clear hb7 hld hres)
    exact bodyPost_ret (v := .agg X) (by rw [results_cell1 rfl]; simp [asAddr, Result.andThen, HLD.out]) rfl HRES.out
end
end Go.Proofs.YthdpeecahpedeaaGreatDoor
namespace Go.Proofs.YthdpeecahpedeaaGreatDoor
open Go.RowKit
set_option linter.unusedVariables false
set_option linter.unusedSimpArgs false
section
variable {w0 w w1 w4 : World} {K Pr P Fi : Nat} {c : Nat → Value} {s : St} {A : Array Value}
theorem KB4.old' (h : KB4 w K Pr P Fi c) (hf : OpenLaw.OTab w Fi pf0 pd0) (hp : Row w P 151 pipA) : Old w.heap.size K Pr P Fi := ⟨h.kq.kr.lt, h.kq.pr.lt, hp.lt, hf.lt⟩
theorem ask_pipe (h : KB4 w K Pr P Fi c) (hf : OpenLaw.OTab w Fi pf0 pd0) (hp : Row w P 151 pipA) (hA : A.size = 7) (ha : A[0]? = some (.int .i64 10)) :
    Calls Tryz.prog 5 #[.pointer (some ⟨K, 0, none⟩), .int .i64 1, .agg A] w (Res w (POut w.heap.size (fun k => k = P ∨ k = Fi) K Pr P Fi c (TPipe w.heap.size)) w) := by
  have old := h.old' hf hp
  have ok := pout_ok (c := c) (S := fun k => k = P ∨ k = Fi) old (TPipe w.heap.size)
  refine ask_is ok (Below.refl _ _) h.kq hA (do_is ok (.inr (.inr (.inr rfl))) hA ha (desc_pipe ok hA ha ?_))
  intro w1 h1
  exact kpipe_is h1 (h.keep h1) (hf.keep h1) (hp.keep h1) old
theorem ask_read (h : PSt w K Pr P Fi c s) (hd : s.fd 8 = 1) (hF : s.fs 0 = tk) (hl : s.l.length ≤ 64) (he : s.e1 = 0 ∨ s.e1 = 1) (hA : A.size = 7) (ha : A[0]? = some (.int .i64 7)) (ha1 : A[1]? = some (.int .i64 0)) {n : Nat} (ha3 : A[3]? = some (.int .i64 n)) (hn : 0 < n) (hn2 : n ≤ 256) :
    Calls Tryz.prog 5 #[.pointer (some ⟨K, 0, none⟩), .int .i64 1, .agg A] w (Res w (POut w.heap.size (fun k => k = s.O) K Pr P Fi c (fun s' dl e a b => TRead n s s' dl e ∧ VN w.heap.size s s')) w) := by
  have ok := pout_ok (c := c) (S := fun k => k = s.O) h.old (fun s' dl e a b => TRead n s s' dl e ∧ VN w.heap.size s s')
  refine ask_is ok (Below.refl _ _) h.k.kq hA (do_is ok (.inr (.inl rfl)) hA ha (desc_read ok h.k h.ot hd hF hA ha ha1 ?_))
  intro w1 h1
  exact kread_is h1 (h.keep h1) h.old ⟨h.pi.ol, fun g hg => (h.pi.ob.lt g hg).2⟩ hl he hA ha3 hn hn2
theorem ask_write (h : PSt w K Pr P Fi c s) (hd : s.fd 9 = 2) (hF : s.fs 1 = gv) (hl : s.l.length ≤ 64) (he : s.e1 = 1) (hA : A.size = 7) (ha : A[0]? = some (.int .i64 8)) (ha1 : A[1]? = some (.int .i64 1)) {bs : List Int} {ad : Option Addr} {cp : Nat} (ha6 : A[6]? = some (.slice ad bs.length cp)) (hb : At (Value.int .u8) 0 w (.slice ad bs.length cp) bs) (hn0 : ad = none → cp = 0) (hn2 : bs.length ≤ 256) :
    Calls Tryz.prog 5 #[.pointer (some ⟨K, 0, none⟩), .int .i64 1, .agg A] w (Res w (POut w.heap.size (fun k => k = s.O ∨ s.v.ownBlock = some k) K Pr P Fi c (fun s' dl e a b => TWrite bs s s' dl e a ∧ VN w.heap.size s s')) w) := by
  have ok := pout_ok (c := c) (S := fun k => k = s.O ∨ s.v.ownBlock = some k) h.old (fun s' dl e a b => TWrite bs s s' dl e a ∧ VN w.heap.size s s')
  refine ask_is ok (Below.refl _ _) h.k.kq hA (do_is ok (.inr (.inr (.inl rfl))) hA ha (desc_write ok h.k h.ot hd hF hA ha ha1 ?_))
  intro w1 h1
  exact kwrite_is h1 (h.keep h1) h.old ⟨h.pi.ol, fun g hg => (h.pi.ob.lt g hg).2⟩ hl he hA ha6 (hb.keep h1) hn0 hn2
theorem ask_close (h : PSt w K Pr P Fi c s) (he : s.e1 = 1) (hfs : s.fs = pf2) (hfd : s.fd = pd2) (hA : A.size = 7) (ha : A[0]? = some (.int .i64 6)) (ha1 : A[1]? = some (.int .i64 1)) :
    Calls Tryz.prog 5 #[.pointer (some ⟨K, 0, none⟩), .int .i64 1, .agg A] w (Res w (POut w.heap.size (fun k => k = Fi ∨ k = s.O) K Pr P Fi c (fun s' dl e a b => TClose s s' dl e ∧ VN w.heap.size s s')) w) := by
  have ok := pout_ok (c := c) (S := fun k => k = Fi ∨ k = s.O) h.old (fun s' dl e a b => TClose s s' dl e ∧ VN w.heap.size s s')
  exact ask_is ok (Below.refl _ _) h.k.kq hA (do_is ok (.inl rfl) hA ha (desc_close h he hfs hfd hA ha ha1))
/-- what the descriptors are, as long as a pipe's reader is there -/
def Rd (s : St) : Prop := s.fd 8 = 1 ∧ s.fs 0 = tk
theorem bd_call7 (w : World) (a n : Int) : (Instr.build 36 #[(0, .int .i64 7), (1, .int .i64 a), (3, .int .i64 n)]).run Tryz.prog w = .ok (.agg #[.int .i64 7, .int .i64 a, .int .i64 0, .int .i64 n, .string ByteArray.empty, .string ByteArray.empty, .slice none 0 0]) w := by kernel_rfl
def bdC (ps : Array (Nat × Value)) : Sem Value := Instr.build 36 ps
theorem bd_call (ps : Array (Nat × Value)) : Instr.build 36 ps = bdC ps := rfl
def GotP (K Pr P Fi : Nat) (c : Nat → Value) (n : Nat) (s : St) (w : World) (e : Ending) (w' : World) : Prop :=
  ∃ s' p k cp dl er, e = .returned (.tuple #[.slice p k cp, .int .i64 er]) ∧ PSt w' K Pr P Fi c s' ∧ OB w.heap.size w' (.slice p k cp) dl ∧ TRead n s s' dl er ∧ VN w.heap.size s s' ∧ (er = 0 ∨ er = 9) ∧ Upd (fun k => k = s.O) w w'
attribute [local go_sem ↓] ld_ans st_ans bd_call
set_option maxRecDepth 100000 in
set_option maxHeartbeats 1000000 in
theorem got_is (h : PSt w K Pr P Fi c s) (hr : Rd s) (hl : s.l.length ≤ 64) (he : s.e1 = 0 ∨ s.e1 = 1) {n : Nat} (hn : 0 < n) (hn2 : n ≤ 256) :
    Calls Tryz.prog 7 #[.pointer (some ⟨K, 0, none⟩), .int .i64 1, .int .i64 0, .int .i64 n] w (GotP K Pr P Fi c n s w) := by
  have HA := Lib.hid (ask_read h hr.1 hr.2 hl he (A := #[.int .i64 7, .int .i64 0, .int .i64 0, .int .i64 n, .string ByteArray.empty, .string ByteArray.empty, .slice none 0 0]) rfl rfl rfl rfl hn hn2)
  have hbd := fun w => bd_call7 w 0 n
  change ∀ w, (bdC _).run _ _ = _ at hbd
  clear h hr hl he hn hn2
  go_enter Tryz.func7, Tryz.ntmps7
  go_upto_region 2 with (go_at_call 5; refine HA.out.mono ?_; rintro e2 w2 ⟨X, rfl, hX, hone, hu, ⟨s', dl, d, er, a, b, hs2, hf2, hd2, rfl, hT, hU⟩⟩; obtain ⟨p, k, cp, rfl⟩ := own_formN hd2; have hst := st0_new w2 (T := 33) (c := ansL) (cs := ansV er a b (.slice p k cp)) rfl (by kernel_rfl) hone; unfold ansL at hst)
  have hal := Go.Joins.below_alloc1 w2 (.cells (ansV er a b (.slice p k cp)) 33)
  have hr3 := row_new w2 33 (ansV er a b (.slice p k cp))
  have c3 := (hr3.cell 3).trans (show (ansV er a b (.slice p k cp))[3]? = some (.slice p k cp) from rfl)
  have c0 := (hr3.cell 0).trans (show (ansV er a b (.slice p k cp))[0]? = some (.int .i64 er) from rfl)
  have HE : Hid (er = 0 ∨ er = 9) := Lib.hid (by obtain ⟨⟨_, _, _, q | q⟩, _⟩ := hT; exact .inr q.2.2.1; exact .inl q.2.1)
  have HS3 := Lib.hid (hs2.keep hal.drew)
  have HD3 := Lib.hid (hd2.keep hal.drew)
  have HU3 := Lib.hid (hU.trans (Upd.below hal.drew))
  have HT := Lib.hid hT
  clear hal hr3 hs2 hf2 hu hd2 hX hone hst hU hT hbd HA
  generalize w2.alloc (.cells (ansV er a b (.slice p k cp)) 33) = w3 at *
  go_region
  go_wp2_with fail
  go_ret2
  exact ⟨s', _, _, _, dl, er, rfl, HS3.out, HD3.out, HT.out.1, HT.out.2, HE.out, HU3.out⟩
end
end Go.Proofs.YthdpeecahpedeaaGreatDoor
