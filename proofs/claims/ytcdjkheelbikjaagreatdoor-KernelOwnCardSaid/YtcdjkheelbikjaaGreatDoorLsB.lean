/- The ways to "/": path.start, path.Walk, kernel.walk. The walks of fs.List and kernel.list at the root with the file "f". The kernel's named at List; the way from do to named. -/
import Derived.Test.YtcdjkheelbikjaaGreatDoorSlB
import Derived.Test.YtcdjkheelbikjaaGreatDoorSlA
namespace Go.Proofs.YtcdjkheelbikjaaGreatDoor
open Go.RowKit Go.Maps
set_option linter.unusedVariables false
set_option linter.unusedSimpArgs false
set_option maxRecDepth 100000 in
set_option maxHeartbeats 400000 in
theorem pwalkR_is (w : World) (b : Nat) : Calls Tryz.prog 247 #[.pointer (some ⟨b, 0, none⟩), .slice none 0 0, .bool true] w fun e w' => e = .returned (.int .i64 0) ∧ w = w' := by
  go_enter Tryz.func247, Tryz.ntmps247
  go_wp2_with fail
  refine wp_loop_rounds 1 ?_
  rw [rounds_succ]
  go_wp2_with fail
  go_ret
  exact ⟨rfl, rfl⟩
section
attribute [local go_sem ↓] ld_crd bd_wlk
set_option maxRecDepth 100000 in
set_option maxHeartbeats 1000000 in
theorem pstartR_is (w : World) (F : Nat) {U K : Int} (hU : 0 ≤ U ∧ U ≤ 99) (hK : 0 ≤ K ∧ K ≤ 127) (a : Option Addr) (cap : Nat) (hc : cap ≤ maxLen) {gc cc : Nat} (h0 : w.cell? ⟨gc, 0, none⟩ = some (.int .i64 1)) (h1 : 1 ≤ cc) (h2 : cc ≤ maxLen) :
    Calls Tryz.prog 246 #[.iface 71 (.pointer (some ⟨F, 0, none⟩)), .slice none 0 0, .agg (crA U K a cap), .slice (some ⟨gc, 0, none⟩) 1 cc, .string ⟨#[47]⟩] w fun e w' => ∃ W sp cp, e = .returned (.tuple #[.pointer (some ⟨W, 0, none⟩), .slice none 0 0, .int .i64 0]) ∧ w.heap.size ≤ W ∧ Row w' W 375 (wkA F U K a cap (.slice sp 1 cp)) ∧ w'.ownsRow w.heap.size 3 1 (.slice sp 1 cp) 1 [.int .i64 1] ∧ (Value.slice sp 1 cp).ownBlock ≠ some W ∧ Below w.heap.size w w' := by
  have hr := row_new w 63 (crA U K a cap)
  have l0 := hr.ld0 Tryz.underlying63 rfl (by unfold crA; kernel_rfl)
  have HR := Lib.hid hr
  have HB := Lib.hid (Go.Joins.below_alloc1 w (.cells (crA U K a cap) 63))
  have hlt : gc < w.heap.size := World.block_lt_of_cell? w _ h0
  have HCK := Lib.hid (fun wx => crchk_is wx hU hK a cap hc)
  have hsz : (w.alloc (.cells (crA U K a cap) 63)).heap.size = w.heap.size + 1 := by simp
  have hone : ∀ i, i < ([1] : List Int).length → w.cell? ⟨gc, 0 + i, none⟩ = some (Value.int .i64 (([1] : List Int).getD i 0)) := by
    intro i hi
    have : i = 0 := by simp only [List.length_cons, List.length_nil] at hi; omega
    subst this
    exact h0
  have hat : At (Value.int .i64) 0 w (.slice (some ⟨gc, 0, none⟩) 1 cc) [1] := ⟨_, _, rfl, h1, h2, .inr ⟨gc, 0, rfl, hlt, hone⟩⟩
  have HCL := Lib.hid (fun wx (hb : Below w.heap.size w wx) => cloneI_is (w := wx) (l := [1]) (by decide) (hat.keep hb))
  have HL := Lib.hid (fun wx (hb : Below (w.alloc (.cells (crA U K a cap) 63)).heap.size (w.alloc (.cells (crA U K a cap) 63)) wx) => (hr.keep hb).ld0 Tryz.underlying63 rfl (by unfold crA; kernel_rfl))
  have hbd := fun w a2 n c2 => bd_wlk_run w F U K a cap a2 n c2
  clear hr hat hone h0 h1 h2 hlt hU hK hc
  generalize crA U K a cap = A at *
  generalize hw0 : w.alloc (.cells A 63) = w0 at *
  go_enter Tryz.func246, Tryz.ntmps246
  go_upto_region 1 with fail
  have hsz : w.heap.size ≤ w0.heap.size := HB.out.size
  clear hw0
  go_upto_region 7 with (first | (go_at_call 242; refine (mcheck_nil _).mono ?_; rintro e1 w1 ⟨rfl, rfl⟩; have HCK0 := Lib.hid (HCK.out w0)) | (go_at_call 191; refine HCK0.out.mono ?_; rintro e2 w2 ⟨rfl, hb2⟩; have HB2 := Lib.hid hb2; clear hb2))
  have HSP := Lib.hid (psplitR_is w2)
  go_upto_region 10 with (go_at_call 65; refine HSP.out.mono ?_; rintro e3 w3 ⟨rfl, hb3⟩)
  have HB3 := Lib.hid (HB2.out.trans (hb3.mono HB2.out.size))
  clear hb3 l0
  have HK : Hid (∀ wx, Below w3.heap.size w3 wx → (ldR 63 (.pointer (some ⟨w.heap.size, 0, none⟩))).run Tryz.prog wx = .ok (.agg A) wx) := Lib.hid (fun wx hb => HL.out _ (HB3.out.trans (hb.mono HB3.out.size)))
  have HB4 := Lib.hid (HB.out.trans (HB3.out.mono HB.out.size))
  go_upto_region 12 with fail
  go_region_held3 (fun wx => (ldR 63 (.pointer (some ⟨w.heap.size, 0, none⟩))).run Tryz.prog wx = .ok (.agg A) wx) (first | (with_reducible exact HK.out _ (Below.refl _ _)) | (with_reducible exact HK.out _ (Below.refl _ _).drew) | (with_reducible exact HK.out _ HB5.out) | (with_reducible exact HK.out _ (HB5.out.alloc HB5.out.size _)) | fail) (first | (go_at_call 135; (with_reducible refine (HCL.out _ HB4.out.drew).mono ?_); rintro e4 w4 ⟨v4, rfl, ho4, hb4⟩; obtain ⟨pa, pc, rfl⟩ := own_form ho4; have HO := Lib.hid ho4; have HB5 := Lib.hid ((Below.refl w3.heap.size w3).drew.trans hb4); clear ho4 hb4) | fail)
  have HB6 := Lib.hid (Go.Joins.below_alloc1 w4 (.cells (wkA F U K a cap (.slice pa 1 pc)) 375))
  have HR6 := Lib.hid (row_new w4 375 (wkA F U K a cap (.slice pa 1 pc)))
  generalize w4.alloc (.cells (wkA F U K a cap (.slice pa 1 pc)) 375) = w6 at *
  have HOB := own_block HO.out (by decide)
  obtain ⟨ga, hga, hg1, hg2, hpc1, hpc2⟩ := HOB
  subst hga
  have y8 : w6.cell? ⟨w4.heap.size, 8, none⟩ = some (.slice (some ⟨ga, 0, none⟩) 1 pc) := HR6.out.cell 8
  have z8 := HR6.out.fz 8
  have hpc3 : (pc : Int) ≤ 9223372036854775807 := by unfold maxLen at hpc2; omega
  have hpc1 : 1 ≤ pc := hpc1
  have hpc4 : (1 : Int) ≤ pc := by omega
  have HR7 : Hid (Row (w6.setCell ⟨w4.heap.size, 8, none⟩ (.slice (some ⟨ga, 0, none⟩) 1 pc)) w4.heap.size 375 (wkA F U K a cap (.slice (some ⟨ga, 0, none⟩) 1 pc))) := Lib.hid (by
    rw [HR6.out.setCell]
    exact HR6.out.setRow _)
  have hu7 : Upd (fun j => j = w4.heap.size) w6 (w6.setCell ⟨w4.heap.size, 8, none⟩ (.slice (some ⟨ga, 0, none⟩) 1 pc)) := Upd.set w6 _ rfl
  have HB7 := Lib.hid (HB6.out.trans (hu7.toBelow HB6.out.size (fun k hk e => by have e : k = w4.heap.size := e; omega)))
  clear hu7
  generalize hZ : wkA F U K a cap (.slice (some ⟨ga, 0, none⟩) 1 pc) = Z at HR6 HR7 ⊢
  have HZ := Lib.hid hZ
  clear hZ HR6 HB6
  go_wp2_with fail
  go_ret3
  have hz5 : w3.heap.size ≤ w4.heap.size := HB5.out.size
  have hzb := HB4.out.size
  exact ⟨w4.heap.size, some ⟨ga, 0, none⟩, pc, rfl, Nat.le_trans hzb hz5, (by rw [HZ.out]; exact HR7.out), owns_keep (owns_base HO.out hzb) HB7.out, fun e => by have := (HO.out.lt _ e).2; omega, HB4.out.trans ((HB5.out.trans (HB7.out.mono hz5)).mono hzb)⟩
end
section
variable {w : World} {c : FC} {x : FM}
attribute [local go_sem ↓] ld_crd
set_option maxRecDepth 100000 in
set_option maxHeartbeats 1000000 in
theorem pWalkR_is {U K : Int} {a : Option Addr} {cap gc cc : Nat} (h : FSt w c x) (hU : 0 ≤ U ∧ U ≤ 99) (hK : 0 ≤ K ∧ K ≤ 127) (hc : cap ≤ maxLen) (h0 : w.cell? ⟨gc, 0, none⟩ = some (.int .i64 1)) (h1 : 1 ≤ cc) (h2 : cc ≤ maxLen) :
    Calls Tryz.prog 174 #[.iface 71 (.pointer (some ⟨c.F, 0, none⟩)), .slice none 0 0, .agg (crA U K a cap), .slice (some ⟨gc, 0, none⟩) 1 cc, .string ⟨#[47]⟩, .bool true] w fun e w' => ∃ g cg, e = .returned (.tuple #[.slice (some ⟨g, 0, none⟩) 1 cg, .int .i64 0]) ∧ w'.cell? ⟨g, 0, none⟩ = some (.int .i64 1) ∧ 1 ≤ cg ∧ cg ≤ maxLen ∧ Below w.heap.size w w' := by
  have hr := row_new w 63 (crA U K a cap)
  have l0 := hr.ld0 Tryz.underlying63 rfl (by unfold crA; kernel_rfl)
  have hal := Go.Joins.below_alloc1 w (.cells (crA U K a cap) 63)
  have hlt : gc < w.heap.size := World.block_lt_of_cell? w _ h0
  have HS := Lib.hid (pstartR_is (w.alloc (.cells (crA U K a cap) 63)) c.F hU hK a cap hc ((hal.cell (p := ⟨gc, 0, none⟩) hlt).trans h0) h1 h2)
  have HWR := Lib.hid pwalkR_is
  have HB := Lib.hid hal
  clear hr hal hlt h hU hK hc h0 h1 h2
  generalize crA U K a cap = A at *
  generalize hw0 : w.alloc (.cells A 63) = w0 at *
  go_enter Tryz.func174, Tryz.ntmps174
  go_upto_region 4 with (go_at_call 246; (with_reducible refine HS.out.mono ?_); rintro e1 w1 ⟨W, sp, cp, rfl, hW, hrw, how, hn, hb1⟩)
  have HB1 := Lib.hid hb1
  have HRW := Lib.hid (And.intro hrw how)
  clear hW hrw how hn hb1
  go_upto_region 7 with (go_at_call 247; (with_reducible refine (HWR.out _ _).mono ?_); rintro e2 w2 ⟨rfl, rfl⟩)
  have b8 : w1.cell? ⟨W, 8, none⟩ = some (.slice sp 1 cp) := HRW.out.1.cell 8
  have HCL := Lib.hid (cloneI_is (l := [1]) (by decide) (at_of_owned (d := 0) (f := i64V) (xs := [1]) HRW.out.2))
  have HB2 := Lib.hid (HB.out.trans (HB1.out.mono HB.out.size))
  go_wp2_with (go_at_call 135; (with_reducible refine HCL.out.mono ?_); rintro e3 w3 ⟨v3, rfl, ho3, hb3⟩; obtain ⟨p3, c3, rfl⟩ := own_form ho3)
  obtain ⟨g3, rfl, q1, q2, q3, q4⟩ := own_block ho3 (by decide)
  go_ret2
  exact ⟨g3, c3, rfl, ho3.cells (g := g3) rfl 0 (.int .i64 1) rfl, q3, q4, HB2.out.trans (hb3.mono HB2.out.size)⟩
end
section
variable {w : World} {k : KC} {s : KSt} {fc : FC} {x : FM} {p : Nat} {U K : Int} {a : Option Addr} {cap gc cc : Nat}
attribute [local go_sem ↓] ld_sta st_sta ld_crd bd_sta
attribute [local go_sem] stS_new
set_option maxRecDepth 100000 in
set_option maxHeartbeats 1000000 in
theorem kwalkR_is (h : KF w k s fc x) (q : Who w s p U K a cap gc cc) (hk : (x.nd 0).k = 2) :
    Calls Tryz.prog 94 #[.pointer (some ⟨k.K, 0, none⟩), .int .i64 p, .string ⟨#[47]⟩] w fun e w' => ∃ g cg, e = .returned (.tuple #[.slice (some ⟨g, 0, none⟩) 1 cg, .agg (stA (x.nd 0)), .int .i64 0]) ∧ w'.cell? ⟨g, 0, none⟩ = some (.int .i64 1) ∧ 1 ≤ cg ∧ cg ≤ maxLen ∧ Below w.heap.size w w' := by
  have HB0 := Lib.hid (Go.Joins.below_alloc1 w (.cells #[.int .i64 0, .int .i64 0, .int .i64 0, .int .i64 0, .int .i64 0, .int .i64 0] 35))
  have HR0 : Hid (Row (w.alloc (.cells #[.int .i64 0, .int .i64 0, .int .i64 0, .int .i64 0, .int .i64 0, .int .i64 0] 35)) w.heap.size 35 (stA nd0)) := Lib.hid (row_new w 35 (stA nd0))
  have HPW := Lib.hid (fun wx (hb : Below w.heap.size w wx) => pWalkR_is (a := a) (h.keep hb).fs q.hU q.hK q.hc (q.keep hb).g q.c1 q.c2)
  have HL : Hid (∀ wx, Below w.heap.size w wx → (wx.cell? ⟨k.K, 2, none⟩ = some (.pointer (some ⟨fc.F, 0, none⟩)) ∧ wx.cell? ⟨k.K, 8 + p * 38 + 18, none⟩ = some (.slice none 0 0) ∧ (ldR 63 (.pointer (some ⟨k.K, 8 + p * 38 + 11, none⟩))).run Tryz.prog wx = .ok (.agg (crA U K a cap)) wx ∧ wx.cell? ⟨k.K, 8 + p * 38 + 17, none⟩ = some (.slice (some ⟨gc, 0, none⟩) 1 cc))) := Lib.hid (fun wx hb => ⟨(h.keep hb).fsp, by rw [(h.keep hb).kt.kr.cell (by have := q.p16; omega), q.mt], (h.keep hb).ldcr (q.keep hb), by rw [(h.keep hb).kt.kr.cell (by have := q.p16; omega), q.wd]⟩)
  have HST := Lib.hid (fun wx (hb : Below w.heap.size w wx) => statF_is (h.keep hb).fs (i := 0) (by decide) (n := 1) rfl (by rw [hk]; decide))
  have i17 : (p : Int) < 17 := by have := q.p16; omega
  clear h q hk
  generalize x.nd 0 = nd at *
  go_enter Tryz.func94, Tryz.ntmps94
  go_upto_region 2 with fail
  generalize w.alloc (.cells #[.int .i64 0, .int .i64 0, .int .i64 0, .int .i64 0, .int .i64 0, .int .i64 0] 35) = w0 at *
  go_region_held3 (fun wx => wx.cell? ⟨k.K, 2, none⟩ = some (.pointer (some ⟨fc.F, 0, none⟩)) ∧ wx.cell? ⟨k.K, 8 + p * 38 + 18, none⟩ = some (.slice none 0 0) ∧ (ldR 63 (.pointer (some ⟨k.K, 8 + p * 38 + 11, none⟩))).run Tryz.prog wx = .ok (.agg (crA U K a cap)) wx ∧ wx.cell? ⟨k.K, 8 + p * 38 + 17, none⟩ = some (.slice (some ⟨gc, 0, none⟩) 1 cc)) (first | (with_reducible exact HL.out _ HB0.out) | (with_reducible exact HL.out _ HB0.out.drew) | (with_reducible exact HL.out _ HB1.out) | fail)
          (first | (go_at_call 174; (with_reducible refine (HPW.out _ HB0.out.drew).mono ?_); rintro e1 w1 ⟨g1, c1, rfl, y1, q1, q2, hb1⟩; have HB1 := Lib.hid (HB0.out.drew.trans (hb1.mono HB0.out.drew.size)); have HR1 := Lib.hid (HR0.out.drew.keep hb1); clear hb1) | fail)
  have hmx : (c1 : Int) ≤ 9223372036854775807 := by unfold maxLen at q2; omega
  have hm2 : (1 : Int) ≤ (c1 : Int) := by omega
  have HQ := Lib.hid (And.intro q1 q2)
  have hg1 : g1 < w1.heap.size := World.block_lt_of_cell? w1 _ y1
  have a2 := (HL.out _ HB1.out).1
  have HZ2 := Lib.hid (fun k => (row_new w1 35 (#[.int .i64 0, .int .i64 0, .int .i64 0, .int .i64 0, .int .i64 0, .int .i64 0] : Array Value)).keep (below_drewN (Below.refl _ _) k))
  have HBO : Hid (∀ wx, Below w1.heap.size w1 wx → (Below w1.heap.size w1 wx ∧ wx.cell? ⟨k.K, 2, none⟩ = some (.pointer (some ⟨fc.F, 0, none⟩)) ∧ wx.cell? ⟨g1, 0, none⟩ = some (.int .i64 1))) := Lib.hid (fun wx hb => ⟨hb, (HL.out _ (HB1.out.trans (hb.mono HB1.out.size))).1, (hb.cell (p := ⟨g1, 0, none⟩) hg1).trans y1⟩)
  have HS1 : Hid (∀ wx, Below w1.heap.size w1 wx → Calls Tryz.prog 166 #[.pointer (some ⟨fc.F, 0, none⟩), .int .i64 1] wx fun e w' => e = .returned (.tuple #[.agg (stA nd), .int .i64 0]) ∧ Below wx.heap.size wx w') := Lib.hid (fun wx hb => HST.out _ (HB1.out.trans (hb.mono HB1.out.size)))
  have HZ3 := Lib.hid (fun (wx : World) (hb : Below (w1.drew.alloc (.cells #[.int .i64 0, .int .i64 0, .int .i64 0, .int .i64 0, .int .i64 0, .int .i64 0] 35)).heap.size (w1.drew.alloc (.cells #[.int .i64 0, .int .i64 0, .int .i64 0, .int .i64 0, .int .i64 0, .int .i64 0] 35)) wx) => (show Row wx w1.heap.size 35 (#[.int .i64 0, .int .i64 0, .int .i64 0, .int .i64 0, .int .i64 0, .int .i64 0] : Array Value) from (row_new w1.drew 35 (#[.int .i64 0, .int .i64 0, .int .i64 0, .int .i64 0, .int .i64 0, .int .i64 0] : Array Value)).keep hb))
  have HZ4 := Lib.hid (fun (wx : World) (hb : Below (w1.alloc (.cells #[.int .i64 0, .int .i64 0, .int .i64 0, .int .i64 0, .int .i64 0, .int .i64 0] 35)).drew.heap.size (w1.alloc (.cells #[.int .i64 0, .int .i64 0, .int .i64 0, .int .i64 0, .int .i64 0, .int .i64 0] 35)).drew wx) => (row_new w1 35 (#[.int .i64 0, .int .i64 0, .int .i64 0, .int .i64 0, .int .i64 0, .int .i64 0] : Array Value)).drew.keep hb)
  have HZ5 := Lib.hid (fun (wx : World) (hb : Below (w1.alloc (.cells #[.int .i64 0, .int .i64 0, .int .i64 0, .int .i64 0, .int .i64 0, .int .i64 0] 35)).heap.size (w1.alloc (.cells #[.int .i64 0, .int .i64 0, .int .i64 0, .int .i64 0, .int .i64 0, .int .i64 0] 35)) wx) => (row_new w1 35 (#[.int .i64 0, .int .i64 0, .int .i64 0, .int .i64 0, .int .i64 0, .int .i64 0] : Array Value)).keep hb)
  clear HPW HL HST y1 q1 q2 hg1
  have yw : IntKind.i64.wrap 0 = 0 := by decide
  go_upto_region 5 with fail
  go_cut [11, 12] (fun s3 s4 wx => s3 = .int .i64 0 ∧ ∃ b9, s4 = .pointer (some ⟨b9, 0, none⟩) ∧ w1.heap.size ≤ b9 ∧ Below w1.heap.size w1 wx ∧ Row wx b9 35 (stA nd) ∧ wx.cell? ⟨g1, 0, none⟩ = some (.int .i64 1))
  case first =>
    go_region_held3 (fun wx => Below w1.heap.size w1 wx ∧ wx.cell? ⟨k.K, 2, none⟩ = some (.pointer (some ⟨fc.F, 0, none⟩)) ∧ wx.cell? ⟨g1, 0, none⟩ = some (.int .i64 1)) (first | assumption | (with_reducible exact HBO.out _ (Below.refl _ _)) | (with_reducible exact HBO.out _ (Below.refl _ _).drew) | (with_reducible exact HBO.out _ (below_drewN (And.left ‹_›) _)) | (with_reducible exact HBO.out _ (below_setRow (And.left ‹_›) (Nat.le_refl _) _)) | (with_reducible exact HBO.out _ (Below.alloc (And.left ‹_›) (Below.size (And.left ‹_›)) _)) | go_keep)
      (first | (go_at_call 166; refine (HS1.out _ (‹Below w1.heap.size w1 _ ∧ _›).1).mono ?_; rintro e9 w9 ⟨rfl, hb9⟩; have hS := HBO.out _ ((‹Below w1.heap.size w1 _ ∧ _›).1.trans (hb9.mono (‹Below w1.heap.size w1 _ ∧ _›).1.size)); first | have hst := (HZ3.out _ hb9).stS nd | have hst := (HZ4.out _ hb9).stS nd | have hst := (HZ5.out _ hb9).stS nd | skip))
    all_goals go_wp2
    all_goals go_meet
    all_goals first
      | exact ⟨rfl, _, rfl, hS.1.size, hS.1.alloc hS.1.size _, row_new _ _ _, (HBO.out _ (hS.1.alloc hS.1.size _)).2.2⟩
      | exact ⟨rfl, _, rfl, Nat.le_refl _, below_setRow hS.1 (Nat.le_refl _) _, ((HZ3.out _ hb9)).setRow _, (HBO.out _ (below_setRow hS.1 (Nat.le_refl _) _)).2.2⟩
      | exact ⟨rfl, _, rfl, Nat.le_refl _, below_setRow hS.1 (Nat.le_refl _) _, ((HZ4.out _ hb9)).setRow _, (HBO.out _ (below_setRow hS.1 (Nat.le_refl _) _)).2.2⟩
      | exact ⟨rfl, _, rfl, Nat.le_refl _, below_setRow hS.1 (Nat.le_refl _) _, ((HZ5.out _ hb9)).setRow _, (HBO.out _ (below_setRow hS.1 (Nat.le_refl _) _)).2.2⟩
  case rest =>
    obtain ⟨rfl, b9, rfl, hbl, hbc, hr9, y1⟩ := hcut
    have l9 := hr9.drew.ldS
    have HBC := Lib.hid (HB1.out.trans (hbc.drew.mono HB1.out.size))
    have hlt : w.heap.size < w1.heap.size := HR1.out.lt
    have hr0 := (HR1.out.keep hbc).drew
    have st9 := Row.stS' (n' := nd) hr0
    have lv9 := (hr0.setRow (stA nd)).ldVS
    have hne : g1 ≠ w.heap.size := fun e => by
      have z : wc.cell? ⟨w.heap.size, 0, none⟩ = some (.int .i64 0) := (HR1.out.keep hbc).cell 0
      rw [← e, y1] at z
      injection z with z
      injection z with _ z
      exact absurd z (by decide)
    have HG := Lib.hid (show (wc.drew.setRow w.heap.size (stA nd)).cell? ⟨g1, 0, none⟩ = some (.int .i64 1) from ((Upd.setRow (S := fun j => j = w.heap.size) wc.drew (stA nd) rfl).cell (World.block_lt_of_cell? wc _ y1) hne).trans y1)
    clear hbl hbc hr9 y1 hr0 hne HZ2 HZ3 HZ4 HZ5 HBO HS1
    generalize hZ : stA nd = Z at l9 st9 lv9 HG ⊢
    have HZ := Lib.hid hZ
    clear hZ
    go_upto_region 6 with fail
    go_region
    all_goals
      go_wp2_with fail
      exact bodyPost_ret (v := .tuple #[.slice (some ⟨g1, 0, none⟩) 1 c1, .agg Z, .int .i64 0]) (by rw [results_tct rfl]; simp [asAddr, Result.andThen, lv9]) rfl ⟨g1, c1, by rw [HZ.out], HG.out, HQ.out.1, HQ.out.2, HBC.out.trans ((Upd.setRow (S := fun j => j = w.heap.size) wc.drew Z rfl).toBelow HBC.out.size (fun k hk e => by have e : k = w.heap.size := e; omega))⟩
end
end Go.Proofs.YtcdjkheelbikjaaGreatDoor
namespace Go.Proofs.YtcdjkheelbikjaaGreatDoor
open Go.RowKit Go.Maps
set_option linter.unusedVariables false
set_option linter.unusedSimpArgs false
/-- an answer with entries -/
def ansT (a : Int) (t : Value) : Array Value := #[.int .i64 0, .int .i64 a, .int .i64 0, .slice none 0 0, t, .int .i64 0, .int .i64 0, .int .i64 0, .int .i64 0, .int .i64 0, .int .i64 0]
theorem bd_T (w : World) (a : Int) (p : Option Addr) (n c : Nat) : (bdR 37 #[(0, .int .i64 0), (1, .int .i64 a), (4, .slice p n c)]).run Tryz.prog w = .ok (.agg (ansT a (.slice p n c))) w := by kernel_rfl
theorem ansT_ok (a : Int) (p : Option Addr) (n c : Nat) : (ansT a (.slice p n c)).size = 11 ∧ (ansT a (.slice p n c)).all (·.oneCell') = true := ⟨rfl, by simp [ansT, Value.oneCell']⟩
section
variable {w : World} {c : FC} {x : FM}
set_option maxRecDepth 100000 in
set_option maxHeartbeats 800000 in
theorem listF_is (h : FSt w c x) {i : Nat} (hi : i < 32) {n : Int} (hn : n = i + 1) (hk : (x.nd i).k = 2) {p : Nat} (hp : (x.nd i).ps = [(p : Int)]) (hp0 : p ≠ 0) (hp1 : p < 256) (hs : (x.nd i).sz = 16) (hf : (fsec x p).take 16 = entL) : Calls Tryz.prog 180 #[.pointer (some ⟨c.F, 0, none⟩), .int .i64 n] w fun e w' => ∃ g cg, e = .returned (.tuple #[.slice (some ⟨g, 0, none⟩) 1 cg, .int .i64 0]) ∧ w.heap.size ≤ g ∧ E1 w' g 0 cg ∧ Below w.heap.size w w' := by
  have HD := Lib.hid (dirF_is h hi hn hk)
  have HB := Lib.hid (begin_is h)
  have HX := Lib.hid (And.intro hp (And.intro hp0 (And.intro hp1 (And.intro hs (And.intro hn hf)))))
  clear h hk hp hs hn hp0 hp1 hf
  go_enter Tryz.func180, Tryz.ntmps180
  go_wp2_with (first | (go_at_call 210; (with_reducible refine HD.out.mono ?_); rintro e1 w1 ⟨rfl, rfl⟩) | (go_at_call 62; (with_reducible refine HB.out.mono ?_); rintro e2 w2 ⟨t, g, cap, db, pb, rfl, hT⟩; have HE := Lib.hid (entries1_is (L := 16) hT hi HX.out.1 HX.out.2.1 HX.out.2.2.1 HX.out.2.2.2.1 (by decide) HX.out.2.2.2.2.1); have HB2 := Lib.hid hT.bl; clear hT) | (go_at_call 212; (with_reducible refine HE.out.mono ?_); rintro e3 w3 ⟨v3, rfl, ha3, hf3, hb3⟩; have ha3 : At (Value.int .u8) 0 w3 v3 entL := (by have e : tsec x (tm0 x g cap db pb) p = fsec x p := rfl; rw [e, HX.out.2.2.2.2.2] at ha3; exact ha3); obtain ⟨b3, o3, c3, rfl⟩ := ha3.form16 rfl; have HF := Lib.hid (list1_is ha3); have HB3 := Lib.hid (HB2.out.trans (hb3.mono HB2.out.size)); clear hb3 ha3 hf3) | (go_at_call 252; (with_reducible refine HF.out.mono ?_); rintro e4 w4 ⟨g4, cg4, rfl, hg4, he4, hb4⟩; have HB4 := Lib.hid (HB3.out.trans (hb4.mono HB3.out.size)); have HE4 := Lib.hid he4; have HG4 := Lib.hid (Nat.le_trans HB3.out.size hg4); clear hb4 he4 hg4))
  go_ret2
  exact ⟨g4, cg4, rfl, HG4.out, HE4.out, HB4.out⟩
end
section
variable {w : World} {k : KC} {s : KSt} {fc : FC} {x : FM} {p : Nat} {U K : Int} {a : Option Addr} {cap gc cc : Nat}
attribute [local go_sem ↓] ld_ans st_ans bd_ans ld_sta st_sta
set_option maxRecDepth 100000 in
set_option maxHeartbeats 1000000 in
theorem klist_is (h : KF w k s fc x) (q : Who w s p U K a cap gc cc) (hk : (x.nd 0).k = 2) {q0 : Nat} (hp : (x.nd 0).ps = [(q0 : Int)]) (hp0 : q0 ≠ 0) (hp1 : q0 < 256) (hs : (x.nd 0).sz = 16) (hf : (fsec x q0).take 16 = entL)
    (hM : ∀ w, Calls Tryz.prog 175 #[.agg (stA (x.nd 0)), .agg (crA U K a cap), .int .i64 1] w fun e w' => e = .returned (.tuple #[.bool true, .int .i64 0]) ∧ Below w.heap.size w w') :
    Calls Tryz.prog 99 #[.pointer (some ⟨k.K, 0, none⟩), .int .i64 p, .int .i64 1, .agg (stA (x.nd 0))] w fun e w' => ∃ g cg, e = .returned (.agg (ansT 1 (.slice (some ⟨g, 0, none⟩) 1 cg))) ∧ w.heap.size ≤ g ∧ E1 w' g 0 cg ∧ Below w.heap.size w w' := by
  have b1 := Go.Joins.below_alloc1 w (.cells (stA (x.nd 0)) 35)
  have b2 := Go.Joins.below_alloc1 (w.alloc (.cells (stA (x.nd 0)) 35)) (.cells ansZ 37)
  have r1 := (row_new w 35 (stA (x.nd 0))).keep b2
  have r2 := row_new (w.alloc (.cells (stA (x.nd 0)) 35)) 37 ansZ
  rw [size_alloc1] at r2
  have hb := b1.trans (b2.mono b1.size)
  have s0 : ((w.alloc (.cells (stA (x.nd 0)) 35)).alloc (.cells ansZ 37)).cell? ⟨w.heap.size, 0, none⟩ = some (.int .i64 2) := by rw [r1.cell]; show some (Value.int .i64 (x.nd 0).k) = _; rw [hk]
  have HMY := Lib.hid (kmay_is (h.keep hb) (q.keep hb) (i := 0) (by decide) (n := 1) rfl (by rw [hk]; decide) hM)
  have HLS := Lib.hid (fun wx (hbx : Below w.heap.size w wx) => listF_is (h.keep hbx).fs (i := 0) (by decide) (n := 1) rfl hk hp hp0 hp1 hs hf)
  have HF2 := Lib.hid (fun wx (hbx : Below w.heap.size w wx) => (h.keep hbx).fsp)
  have HB := Lib.hid hb
  have HR2 := Lib.hid r2
  have HLT := Lib.hid r2.lt
  clear h q hk hp hp0 hp1 hs hf hM b1 b2 r1 r2 hb
  have hz0 : ansZ = #[.int .i64 0, .int .i64 0, .int .i64 0, .slice none 0 0, .slice none 0 0, .int .i64 0, .int .i64 0, .int .i64 0, .int .i64 0, .int .i64 0, .int .i64 0] := rfl
  generalize stA (x.nd 0) = S at *
  rw [hz0] at s0 HMY HB HLT
  have HR2 : Hid (Row ((w.alloc (.cells S 35)).alloc (.cells #[.int .i64 0, .int .i64 0, .int .i64 0, .slice none 0 0, .slice none 0 0, .int .i64 0, .int .i64 0, .int .i64 0, .int .i64 0, .int .i64 0, .int .i64 0] 37)) (w.heap.size + 1) 37 ansZ) := HR2
  go_enter Tryz.func99, Tryz.ntmps99
  go_upto_region 1 with fail
  generalize ((w.alloc (.cells S 35)).alloc (.cells #[.int .i64 0, .int .i64 0, .int .i64 0, .slice none 0 0, .slice none 0 0, .int .i64 0, .int .i64 0, .int .i64 0, .int .i64 0, .int .i64 0, .int .i64 0] 37)) = w1 at *
  go_upto_region 4 with (go_at_call 100; (with_reducible refine HMY.out.mono ?_); rintro e3 w3 ⟨rfl, hb3⟩)
  have HB3 := Lib.hid (HB.out.trans (hb3.mono HB.out.size))
  have HR3 := Lib.hid (HR2.out.keep hb3)
  have c2 := HF2.out _ HB3.out
  have HL3 := Lib.hid (HLS.out _ HB3.out)
  clear HMY HLS hb3
  go_upto_region 7 with (go_at_call 180; (with_reducible refine HL3.out.mono ?_); rintro e4 w4 ⟨g4, cg4, rfl, hg4, he4, hb4⟩)
  have HB4 := Lib.hid (HB3.out.trans (hb4.mono HB3.out.size))
  have hr4 := HR3.out.keep hb4
  have HG := Lib.hid (Nat.le_trans HB3.out.size hg4)
  obtain ⟨hX, hone⟩ := ansT_ok 1 (some ⟨g4, 0, none⟩) 1 cg4
  have hst := ans_st hr4 hX hone
  have HLD := Lib.hid (ans_ldV hr4 hX)
  have hbd := fun w => bd_T w 1 (some ⟨g4, 0, none⟩) 1 cg4
  have hu5 : Upd (fun i => i = w.heap.size + 1) w4 (w4.setRow (w.heap.size + 1) (ansT 1 (.slice (some ⟨g4, 0, none⟩) 1 cg4))) := Upd.setRow w4 _ rfl
  have hrl := HR3.out.lt
  have HFIN : Hid (E1 (w4.setRow (w.heap.size + 1) (ansT 1 (.slice (some ⟨g4, 0, none⟩) 1 cg4))) g4 0 cg4 ∧ Below w.heap.size w (w4.setRow (w.heap.size + 1) (ansT 1 (.slice (some ⟨g4, 0, none⟩) 1 cg4)))) := Lib.hid ⟨he4.upd hu5 (by show ¬ g4 = w.heap.size + 1; omega), HB4.out.trans (hu5.toBelow HB4.out.size (fun k hk e => by have e : k = w.heap.size + 1 := e; omega))⟩
  clear hr4 hX hone hu5 he4 hb4 hg4 hrl c2 HF2
  generalize hZ : ansT 1 (.slice (some ⟨g4, 0, none⟩) 1 cg4) = Z at hst HLD hbd HFIN
  have HZ := Lib.hid hZ
  clear hZ
  go_wp2_with fail
  exact bodyPost_ret (v := .agg Z) (by rw [results_cell1 rfl]; simp [asAddr, Result.andThen, HLD.out]) rfl ⟨g4, cg4, by rw [HZ.out], HG.out, HFIN.out⟩
end
end Go.Proofs.YtcdjkheelbikjaaGreatDoor
namespace Go.Proofs.YtcdjkheelbikjaaGreatDoor
open Go.RowKit
set_option linter.unusedVariables false
set_option linter.unusedSimpArgs false
/-- an answer that tells the root's one entry -/
def ListOut (w : World) (X : Array Value) (w' : World) : Prop := ∃ g cg, X = ansT 1 (.slice (some ⟨g, 0, none⟩) 1 cg) ∧ w.heap.size ≤ g ∧ E1 w' g 0 cg ∧ Below w.heap.size w w'
theorem listOut_ok (w0 : World) : OutOk w0 ListOut := by
  refine ⟨?_, ?_, ?_⟩
  · rintro w w1 w2 b C X h0 h1 ⟨g, cg, rfl, hg, he, hb⟩ hb0 hb1
    have z1 := h1.size
    have u : Upd (fun k => k = b) w2 (w2.setRow b C) := Upd.setRow w2 C rfl
    have hw := h1.trans (hb.mono z1)
    exact ⟨g, cg, rfl, by omega, he.upd u (by show ¬ g = b; omega), hw.trans (u.toBelow hw.size (fun k hk e => by have e : k = b := e; omega))⟩
  · rintro w w1 w2 X h0 h1 ⟨g, cg, rfl, hg, he, hb⟩
    have z1 := h1.size
    exact ⟨g, cg, rfl, by omega, he, h1.trans (hb.mono z1)⟩
  · rintro w X w2 w3 ⟨g, cg, rfl, hg, he, hb⟩ hb3
    exact ⟨g, cg, rfl, hg, he.keep hb3, hb.trans (hb3.mono hb.size)⟩
section
variable {w0 w : World} {Out : World → Array Value → World → Prop} {k : KC} {s : KSt} {fc : FC} {x : FM} {p : Nat} {A : Array Value} {U K : Int} {a : Option Addr} {cap gc cc : Nat}
attribute [local go_sem ↓] ld_ans st_ans ld_call bd_ans
set_option maxRecDepth 100000 in
set_option maxHeartbeats 1000000 in
theorem doN_is {K : Nat} {q : Int} (ok : OutOk w0 Out) {num : Int} (hn : num = 13 ∨ num = 17 ∨ num = 32) (hA : A.size = 7) (ha : A[0]? = some (.int .i64 num)) (hs : Spec w0 Out 46 #[.pointer (some ⟨K, 0, none⟩), .int .i64 q, .agg A]) :
    Spec w0 Out 24 #[.pointer (some ⟨K, 0, none⟩), .int .i64 q, .agg A] := by
  intro w h0
  have hb1 := Go.Joins.below_alloc1 w (.cells A 40)
  have hal : Below w.heap.size w ((w.alloc (.cells A 40)).alloc (.cells ansZ 37)) := hb1.trans ((Go.Joins.below_alloc1 _ _).mono hb1.size)
  have hr1 := (row_new w 40 A).alloc (.cells ansZ 37)
  have hr2 := row_new (w.alloc (.cells A 40)) 37 ansZ
  rw [size_alloc1] at hr2
  have d0 : ((w.alloc (.cells A 40)).alloc (.cells ansZ 37)).cell? ⟨w.heap.size, 0, none⟩ = some (.int .i64 num) := by rw [hr1.cell, ha]
  have l2 := ld_callR hr1 hA
  have HR : Hid (Row ((w.alloc (.cells A 40)).alloc (.cells #[.int .i64 0, .int .i64 0, .int .i64 0, .slice none 0 0, .slice none 0 0, .int .i64 0, .int .i64 0, .int .i64 0, .int .i64 0, .int .i64 0, .int .i64 0] 37)) (w.heap.size + 1) 37 ansZ) := Lib.hid hr2
  have HB := Lib.hid hal
  have HC := Lib.hid (hs _ (h0.trans (hal.mono h0.size)))
  have HOK := Lib.hid ok
  have H0 := Lib.hid h0
  have HLT := Lib.hid hr2.lt
  clear hal hr1 hr2 hA hs ok h0 ha hb1
  have hz : ansZ = #[.int .i64 0, .int .i64 0, .int .i64 0, .slice none 0 0, .slice none 0 0, .int .i64 0, .int .i64 0, .int .i64 0, .int .i64 0, .int .i64 0, .int .i64 0] := rfl
  rw [hz] at d0 l2 HB HC HLT
  rcases hn with rfl | rfl | rfl
  all_goals
    go_enter Tryz.func24, Tryz.ntmps24
    go_upto_region 1 with fail
    generalize (w.alloc (.cells A 40)).alloc (.cells #[.int .i64 0, .int .i64 0, .int .i64 0, .slice none 0 0, .slice none 0 0, .int .i64 0, .int .i64 0, .int .i64 0, .int .i64 0, .int .i64 0, .int .i64 0] 37) = w1 at *
    go_wp2_with (go_at_call 46; refine HC.out.mono ?_; rintro e2 w2 ⟨X, rfl, hX, hone, hu, ho⟩; have hr := ans_row H0.out HR.out (Nat.le_succ _) hu; have hst := ans_st hr hX hone; have HLD := Lib.hid (ans_ldV hr hX); have HP := Lib.hid (HOK.out.put (C := X) H0.out HB.out hu ho (Nat.le_succ _) HLT.out); have HX := Lib.hid (And.intro hX hone); clear hr hX hone hu ho; generalize w2.setRow (w.heap.size + 1) X = w3 at *)
    exact bodyPost_ret (v := .agg X) (by rw [results_cell1 rfl]; simp [asAddr, Result.andThen, HLD.out]) rfl ⟨X, rfl, HX.out.1, HX.out.2, HP.out.1, HP.out.2⟩
end
section
variable {w0 w : World} {Out : World → Array Value → World → Prop} {k : KC} {s : KSt} {fc : FC} {x : FM} {p : Nat} {A : Array Value} {U K : Int} {a : Option Addr} {cap gc cc : Nat}
attribute [local go_sem ↓] ld_ans st_ans ld_call bd_ans ld_sta st_sta
attribute [local go_sem] stS_new
set_option maxRecDepth 100000 in
set_option maxHeartbeats 2000000 in
theorem namedL_is (h : KF w0 k s fc x) (q : Who w0 s p U K a cap gc cc) (hk : (x.nd 0).k = 2) {q0 : Nat} (hp : (x.nd 0).ps = [(q0 : Int)]) (hp0 : q0 ≠ 0) (hp1 : q0 < 256) (hs : (x.nd 0).sz = 16) (hf : (fsec x q0).take 16 = entL)
    (hM : ∀ w, Calls Tryz.prog 175 #[.agg (stA (x.nd 0)), .agg (crA U K a cap), .int .i64 1] w fun e w' => e = .returned (.tuple #[.bool true, .int .i64 0]) ∧ Below w.heap.size w w') (hA : A.size = 7) (ha : A[0]? = some (.int .i64 32)) (ha4 : A[4]? = some (.string ⟨#[47]⟩)) :
    Spec w0 ListOut 46 #[.pointer (some ⟨k.K, 0, none⟩), .int .i64 p, .agg A] := by
  intro w h0
  have hb1 := Go.Joins.below_alloc1 w (.cells A 40)
  have hal : Below w.heap.size w ((w.alloc (.cells A 40)).alloc (.cells ansZ 37)) := hb1.trans ((Go.Joins.below_alloc1 _ _).mono hb1.size)
  have hr1 := (row_new w 40 A).alloc (.cells ansZ 37)
  have hr2 := row_new (w.alloc (.cells A 40)) 37 ansZ
  rw [size_alloc1] at hr2
  have d0 : ((w.alloc (.cells A 40)).alloc (.cells ansZ 37)).cell? ⟨w.heap.size, 0, none⟩ = some (.int .i64 32) := by rw [hr1.cell, ha]
  have d4 : ((w.alloc (.cells A 40)).alloc (.cells ansZ 37)).cell? ⟨w.heap.size, 4, none⟩ = some (.string ⟨#[47]⟩) := by rw [hr1.cell, ha4]
  have HWK := Lib.hid (kwalkR_is ((h.keep h0).keep hal) ((q.keep h0).keep hal) hk)
  have HLS := Lib.hid (fun wx (hb : Below w0.heap.size w0 wx) => klist_is (h.keep hb) (q.keep hb) hk hp hp0 hp1 hs hf hM)
  have HR : Hid (Row ((w.alloc (.cells A 40)).alloc (.cells #[.int .i64 0, .int .i64 0, .int .i64 0, .slice none 0 0, .slice none 0 0, .int .i64 0, .int .i64 0, .int .i64 0, .int .i64 0, .int .i64 0, .int .i64 0] 37)) (w.heap.size + 1) 37 ansZ) := Lib.hid hr2
  have HR1 := Lib.hid hr1
  have HB := Lib.hid hal
  have H0 := Lib.hid h0
  have HLT := Lib.hid hr2.lt
  have HAS := Lib.hid (And.intro hA (And.intro ha ha4))
  clear hal hr1 hr2 hA h0 ha hb1 ha4 h q hk hp hp0 hp1 hs hf hM
  have hz : ansZ = #[.int .i64 0, .int .i64 0, .int .i64 0, .slice none 0 0, .slice none 0 0, .int .i64 0, .int .i64 0, .int .i64 0, .int .i64 0, .int .i64 0, .int .i64 0] := rfl
  rw [hz] at d0 d4 HB HWK HLT HR1
  generalize x.nd 0 = nd at *
  go_enter Tryz.func46, Tryz.ntmps46
  go_upto_region 1 with fail
  generalize (w.alloc (.cells A 40)).alloc (.cells #[.int .i64 0, .int .i64 0, .int .i64 0, .slice none 0 0, .slice none 0 0, .int .i64 0, .int .i64 0, .int .i64 0, .int .i64 0, .int .i64 0, .int .i64 0] 37) = w1 at *
  go_upto_region 15 with (go_at_call 94; (with_reducible refine HWK.out.mono ?_); rintro e2 w2 ⟨g2, cg2, rfl, y2, q1, q2, hb2⟩)
  have b3 := Go.Joins.below_alloc1 w2 (.cells (stA nd) 35)
  have hr3 := row_new w2 35 (stA nd)
  have HB3 := Lib.hid (HB.out.trans ((hb2.trans (b3.mono hb2.size)).mono HB.out.size))
  have HR3 := Lib.hid ((HR.out.keep hb2).keep b3)
  have d0' := (((HR1.out.keep hb2).keep b3).cell 0).trans HAS.out.2.1
  have l3 := hr3.ldS
  have y3 := (b3.cell (p := ⟨g2, 0, none⟩) (World.block_lt_of_cell? w2 _ y2)).trans y2
  have hmx : (cg2 : Int) ≤ 9223372036854775807 := by unfold maxLen at q2; omega
  have hm1 : (1 : Int) ≤ cg2 := by omega
  have HL3 := Lib.hid (HLS.out _ (H0.out.trans (HB3.out.mono H0.out.size)))
  have HLT3 : Hid (w.heap.size + 1 < (w2.alloc (.cells (stA nd) 35)).heap.size) := Lib.hid HR3.out.lt
  clear b3 hr3 hb2 y2 q1 q2 d0 d4 HWK HLS HR HR1 HLT
  generalize w2.alloc (.cells (stA nd) 35) = w3 at *
  generalize stA nd = S at *
  go_wp2_with (go_at_call 99; (with_reducible refine HL3.out.mono ?_); rintro e4 w4 ⟨g4, cg4, rfl, hg4, he4, hb4⟩; obtain ⟨hX, hone⟩ := ansT_ok 1 (some ⟨g4, 0, none⟩) 1 cg4; have hr4 := HR3.out.keep hb4; have hst := ans_st hr4 hX hone; have HLD := Lib.hid (ans_ldV hr4 hX); have HP := Lib.hid ((listOut_ok w0).put (C := ansT 1 (.slice (some ⟨g4, 0, none⟩) 1 cg4)) H0.out HB3.out ((Upd.below (S := fun k => k < w0.heap.size) hb4)) ⟨g4, cg4, rfl, hg4, he4, hb4⟩ (Nat.le_succ _) HLT3.out); have HX := Lib.hid (And.intro hX hone); clear hr4 hX hone hg4 he4 hb4; generalize hZZ : ansT 1 (.slice (some ⟨g4, 0, none⟩) 1 cg4) = X at *; generalize w4.setRow (w.heap.size + 1) X = w5 at *)
  exact bodyPost_ret (v := .agg X) (by rw [results_cell1 rfl]; simp [asAddr, Result.andThen, HLD.out]) rfl ⟨X, rfl, HX.out.1, HX.out.2, HP.out.1, HP.out.2⟩
end
end Go.Proofs.YtcdjkheelbikjaaGreatDoor
