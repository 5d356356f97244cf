/- The ways to "/f", where the file is there: path.start, path.Walk, kernel.walk, kernel.opened, kernel.open. -/
import Derived.Test.YtcdjkheelbikjaaGreatDoorSlA
import Derived.Test.YtcdjkheelbikjaaGreatDoorRwB
import Derived.Test.YtcdjkheelbikjaaGreatDoorKfF
namespace Go.Proofs.YtcdjkheelbikjaaGreatDoor
open Go.RowKit Go.Maps
set_option linter.unusedVariables false
set_option linter.unusedSimpArgs false
section
attribute [local go_sem ↓] ld_crd bd_wlk
set_option maxRecDepth 100000 in
set_option maxHeartbeats 1000000 in
theorem pstartS_is (w : World) (F : Nat) {U K : Int} (hU : 0 ≤ U ∧ U ≤ 99) (hK : 0 ≤ K ∧ K ≤ 127) (a : Option Addr) (cap : Nat) (hc : cap ≤ maxLen) {gc cc : Nat} (h0 : w.cell? ⟨gc, 0, none⟩ = some (.int .i64 1)) (h1 : 1 ≤ cc) (h2 : cc ≤ maxLen) :
    Calls Tryz.prog 246 #[.iface 71 (.pointer (some ⟨F, 0, none⟩)), .slice none 0 0, .agg (crA U K a cap), .slice (some ⟨gc, 0, none⟩) 1 cc, .string ⟨#[47, 102]⟩] w fun e w' => ∃ W sp cp gl cl, e = .returned (.tuple #[.pointer (some ⟨W, 0, none⟩), .slice (some ⟨gl, 0, none⟩) 1 cl, .int .i64 0]) ∧ w.heap.size ≤ W ∧ Row w' W 375 (wkA F U K a cap (.slice sp 1 cp)) ∧ w'.ownsRow w.heap.size 3 1 (.slice sp 1 cp) 1 [.int .i64 1] ∧ (Value.slice sp 1 cp).ownBlock ≠ some W ∧ gl ≠ W ∧ (∀ g, (Value.slice sp 1 cp).ownBlock = some g → gl < g) ∧ w.heap.size ≤ gl ∧ w'.cell? ⟨gl, 0, none⟩ = some (.string ⟨#[102]⟩) ∧ 1 ≤ cl ∧ cl ≤ maxLen ∧ Below w.heap.size w w' := by
  have hr := row_new w 63 (crA U K a cap)
  have l0 := hr.ld0 Tryz.underlying63 rfl (by unfold crA; kernel_rfl)
  have HR := Lib.hid hr
  have HB := Lib.hid (Go.Joins.below_alloc1 w (.cells (crA U K a cap) 63))
  have hlt : gc < w.heap.size := World.block_lt_of_cell? w _ h0
  have HCK := Lib.hid (fun wx => crchk_is wx hU hK a cap hc)
  have hsz : (w.alloc (.cells (crA U K a cap) 63)).heap.size = w.heap.size + 1 := by simp
  have hone : ∀ i, i < ([1] : List Int).length → w.cell? ⟨gc, 0 + i, none⟩ = some (Value.int .i64 (([1] : List Int).getD i 0)) := by
    intro i hi
    have : i = 0 := by simp only [List.length_cons, List.length_nil] at hi; omega
    subst this
    exact h0
  have hat : At (Value.int .i64) 0 w (.slice (some ⟨gc, 0, none⟩) 1 cc) [1] := ⟨_, _, rfl, h1, h2, .inr ⟨gc, 0, rfl, hlt, hone⟩⟩
  have HCL := Lib.hid (fun wx (hb : Below w.heap.size w wx) => cloneI_is (w := wx) (l := [1]) (by decide) (hat.keep hb))
  have HL := Lib.hid (fun wx (hb : Below (w.alloc (.cells (crA U K a cap) 63)).heap.size (w.alloc (.cells (crA U K a cap) 63)) wx) => (hr.keep hb).ld0 Tryz.underlying63 rfl (by unfold crA; kernel_rfl))
  have hbd := fun w a2 n c2 => bd_wlk_run w F U K a cap a2 n c2
  clear hr hat hone h0 h1 h2 hlt hU hK hc
  generalize crA U K a cap = A at *
  generalize hw0 : w.alloc (.cells A 63) = w0 at *
  go_enter Tryz.func246, Tryz.ntmps246
  go_upto_region 1 with fail
  have hsz : w.heap.size ≤ w0.heap.size := HB.out.size
  clear hw0
  go_upto_region 7 with (first | (go_at_call 242; refine (mcheck_nil _).mono ?_; rintro e1 w1 ⟨rfl, rfl⟩; have HCK0 := Lib.hid (HCK.out w0)) | (go_at_call 191; refine HCK0.out.mono ?_; rintro e2 w2 ⟨rfl, hb2⟩; have HB2 := Lib.hid hb2; clear hb2))
  have HSP := Lib.hid (psplitS_is w2)
  go_upto_region 10 with (go_at_call 65; refine HSP.out.mono ?_; rintro e3 w3 ⟨gl, cl, rfl, hgl, hcl, q1, q2, hb3⟩)
  have hlgl : gl < w3.heap.size := World.block_lt_of_cell? w3 _ hcl
  have HG := Lib.hid (And.intro (Nat.le_trans hsz (Nat.le_trans HB2.out.size hgl)) (And.intro hcl (And.intro q1 (And.intro q2 hlgl))))
  have HB3 := Lib.hid (HB2.out.trans (hb3.mono HB2.out.size))
  clear hgl hcl q1 q2 hlgl hb3 l0
  have HK : Hid (∀ wx, Below w3.heap.size w3 wx → (ldR 63 (.pointer (some ⟨w.heap.size, 0, none⟩))).run Tryz.prog wx = .ok (.agg A) wx) := Lib.hid (fun wx hb => HL.out _ (HB3.out.trans (hb.mono HB3.out.size)))
  have HB4 := Lib.hid (HB.out.trans (HB3.out.mono HB.out.size))
  go_upto_region 12 with fail
  go_region_held3 (fun wx => (ldR 63 (.pointer (some ⟨w.heap.size, 0, none⟩))).run Tryz.prog wx = .ok (.agg A) wx) (first | (with_reducible exact HK.out _ (Below.refl _ _)) | (with_reducible exact HK.out _ (Below.refl _ _).drew) | (with_reducible exact HK.out _ HB5.out) | (with_reducible exact HK.out _ (HB5.out.alloc HB5.out.size _)) | fail) (first | (go_at_call 135; (with_reducible refine (HCL.out _ HB4.out.drew).mono ?_); rintro e4 w4 ⟨v4, rfl, ho4, hb4⟩; obtain ⟨pa, pc, rfl⟩ := own_form ho4; have HO := Lib.hid ho4; have HB5 := Lib.hid ((Below.refl w3.heap.size w3).drew.trans hb4); clear ho4 hb4) | fail)
  have HB6 := Lib.hid (Go.Joins.below_alloc1 w4 (.cells (wkA F U K a cap (.slice pa 1 pc)) 375))
  have HR6 := Lib.hid (row_new w4 375 (wkA F U K a cap (.slice pa 1 pc)))
  generalize w4.alloc (.cells (wkA F U K a cap (.slice pa 1 pc)) 375) = w6 at *
  have HOB := own_block HO.out (by decide)
  obtain ⟨ga, hga, hg1, hg2, hpc1, hpc2⟩ := HOB
  subst hga
  have y8 : w6.cell? ⟨w4.heap.size, 8, none⟩ = some (.slice (some ⟨ga, 0, none⟩) 1 pc) := HR6.out.cell 8
  have z8 := HR6.out.fz 8
  have hpc3 : (pc : Int) ≤ 9223372036854775807 := by unfold maxLen at hpc2; omega
  have hpc1 : 1 ≤ pc := hpc1
  have hpc4 : (1 : Int) ≤ pc := by omega
  have HR7 : Hid (Row (w6.setCell ⟨w4.heap.size, 8, none⟩ (.slice (some ⟨ga, 0, none⟩) 1 pc)) w4.heap.size 375 (wkA F U K a cap (.slice (some ⟨ga, 0, none⟩) 1 pc))) := Lib.hid (by
    rw [HR6.out.setCell]
    exact HR6.out.setRow _)
  have hu7 : Upd (fun j => j = w4.heap.size) w6 (w6.setCell ⟨w4.heap.size, 8, none⟩ (.slice (some ⟨ga, 0, none⟩) 1 pc)) := Upd.set w6 _ rfl
  have HB7 := Lib.hid (HB6.out.trans (hu7.toBelow HB6.out.size (fun k hk e => by have e : k = w4.heap.size := e; omega)))
  clear hu7
  generalize hZ : wkA F U K a cap (.slice (some ⟨ga, 0, none⟩) 1 pc) = Z at HR6 HR7 ⊢
  have HZ := Lib.hid hZ
  clear hZ HR6 HB6
  go_wp2_with fail
  go_ret3
  obtain ⟨g1, g2, g3, g4, g5⟩ := HG.out
  have hz5 : w3.heap.size ≤ w4.heap.size := HB5.out.size
  have hzb := HB4.out.size
  refine ⟨w4.heap.size, some ⟨ga, 0, none⟩, pc, gl, cl, rfl, Nat.le_trans hzb hz5, (by rw [HZ.out]; exact HR7.out), owns_keep (owns_base HO.out hzb) HB7.out, fun e => by have := (HO.out.lt _ e).2; omega, fun e => by omega, fun g e => Nat.lt_of_lt_of_le g5 (HO.out.lt _ e).1, g1, ?_, g3, g4, HB4.out.trans ((HB5.out.trans (HB7.out.mono hz5)).mono hzb)⟩
  rw [← g2]
  exact (HB5.out.trans (HB7.out.mono hz5)).cell (p := ⟨gl, 0, none⟩) g5
end
section
variable {w : World} {c : FC} {x : FM}
attribute [local go_sem ↓] ld_crd
set_option maxRecDepth 100000 in
set_option maxHeartbeats 1000000 in
theorem pWalkS_is {U K : Int} {a : Option Addr} {cap gc cc : Nat} (h : FSt w c x) (hk : (x.nd 0).k = 2) {p : Nat} (hp : (x.nd 0).ps = [(p : Int)]) (hp0 : p ≠ 0) (hp1 : p < 256) (hs : (x.nd 0).sz = 16) (hf : (fsec x p).take 16 = entL) (hk1 : (x.nd 1).k = 1) (hU : 0 ≤ U ∧ U ≤ 99) (hK : 0 ≤ K ∧ K ≤ 127) (hc : cap ≤ maxLen) (h0 : w.cell? ⟨gc, 0, none⟩ = some (.int .i64 1)) (h1 : 1 ≤ cc) (h2 : cc ≤ maxLen)
    (hM : ∀ w, Calls Tryz.prog 175 #[.agg (stA (x.nd 0)), .agg (crA U K a cap), .int .i64 4] w fun e w' => e = .returned (.tuple #[.bool true, .int .i64 0]) ∧ Below w.heap.size w w') :
    Calls Tryz.prog 174 #[.iface 71 (.pointer (some ⟨c.F, 0, none⟩)), .slice none 0 0, .agg (crA U K a cap), .slice (some ⟨gc, 0, none⟩) 1 cc, .string ⟨#[47, 102]⟩, .bool true] w fun e w' => ∃ g cg, e = .returned (.tuple #[.slice (some ⟨g, 0, none⟩) 2 cg, .int .i64 0]) ∧ w'.cell? ⟨g, 1, none⟩ = some (.int .i64 2) ∧ 2 ≤ cg ∧ cg ≤ maxLen ∧ Below w.heap.size w w' := by
  have hr := row_new w 63 (crA U K a cap)
  have l0 := hr.ld0 Tryz.underlying63 rfl (by unfold crA; kernel_rfl)
  have hal := Go.Joins.below_alloc1 w (.cells (crA U K a cap) 63)
  have hlt : gc < w.heap.size := World.block_lt_of_cell? w _ h0
  have HS := Lib.hid (pstartS_is (w.alloc (.cells (crA U K a cap) 63)) c.F hU hK a cap hc ((hal.cell (p := ⟨gc, 0, none⟩) hlt).trans h0) h1 h2)
  have h' := h.keep hal
  have HW : Hid (∀ w1 W sp cp gl cl, Below (w.alloc (.cells (crA U K a cap) 63)).heap.size (w.alloc (.cells (crA U K a cap) 63)) w1 → (w.alloc (.cells (crA U K a cap) 63)).heap.size ≤ W → Row w1 W 375 (wkA c.F U K a cap (.slice sp 1 cp)) → w1.ownsRow (w.alloc (.cells (crA U K a cap) 63)).heap.size 3 1 (.slice sp 1 cp) 1 [.int .i64 1] → (Value.slice sp 1 cp).ownBlock ≠ some W → w1.cell? ⟨gl, 0, none⟩ = some (.string ⟨#[102]⟩) → 1 ≤ cl → cl ≤ maxLen → Calls Tryz.prog 247 #[.pointer (some ⟨W, 0, none⟩), .slice (some ⟨gl, 0, none⟩) 1 cl, .bool true] w1 fun e w' => e = .returned (.int .i64 0) ∧ ∃ g2 c2, Row w' W 375 (wkA c.F U K a cap (.slice g2 2 c2)) ∧ w'.ownsRow (w.alloc (.cells (crA U K a cap) 63)).heap.size 3 1 (.slice g2 2 c2) 2 [.int .i64 1, .int .i64 2] ∧ Below (w.alloc (.cells (crA U K a cap) 63)).heap.size w1 w') := Lib.hid (fun w1 W sp cp gl cl hb hWs hw ho hne hgl k1 k2 =>
    pwalkF_is (h'.keep hb) hk hp hp0 hp1 hs hf hk1 hw ho hWs hne hM hgl k1 k2)
  have HB := Lib.hid hal
  clear hr hal hlt h h' hk hp hs hU hK hc h0 h1 h2 hM hp0 hp1 hf hk1
  generalize crA U K a cap = A at *
  generalize hw0 : w.alloc (.cells A 63) = w0 at *
  go_enter Tryz.func174, Tryz.ntmps174
  go_upto_region 4 with (go_at_call 246; (with_reducible refine HS.out.mono ?_); rintro e1 w1 ⟨W, sp, cp, gl, cl, rfl, hW, hrw, how, hn, hn2, hn3, hn4, hgl, k1, k2, hb1⟩)
  have HW1 := Lib.hid (HW.out w1 W sp cp gl cl hb1 hW hrw how hn hgl k1 k2)
  have HB1 := Lib.hid hb1
  clear hW hrw how hn hn2 hn3 hn4 hgl k1 k2 hb1
  go_upto_region 7 with (go_at_call 247; (with_reducible refine HW1.out.mono ?_); rintro e2 w2 ⟨rfl, g2, c2, hw2, ho2, hb2⟩)
  have b8 : w2.cell? ⟨W, 8, none⟩ = some (.slice g2 2 c2) := hw2.cell 8
  have HCL := Lib.hid (cloneI_is (l := [1, 2]) (by decide) (at_of_owned (d := 0) (f := i64V) (xs := [1, 2]) ho2))
  have HB2 := Lib.hid (HB.out.trans ((HB1.out.trans hb2).mono HB.out.size))
  clear hw2 ho2 hb2
  go_wp2_with (go_at_call 135; (with_reducible refine HCL.out.mono ?_); rintro e3 w3 ⟨v3, rfl, ho3, hb3⟩; obtain ⟨p3, c3, rfl⟩ := own_form ho3)
  obtain ⟨g3, rfl, q1, q2, q3, q4⟩ := own_block ho3 (by decide)
  go_ret2
  exact ⟨g3, c3, rfl, ho3.cells (g := g3) rfl 1 (.int .i64 2) rfl, q3, q4, HB2.out.trans (hb3.mono HB2.out.size)⟩
end
section
variable {w0 w : World} {k : KC} {s : KSt} {fc : FC} {x : FM} {p : Nat} {U K : Int} {a : Option Addr} {cap gc cc : Nat} {A : Array Value}
section
attribute [local go_sem ↓] ld_sta st_sta ld_crd bd_sta
attribute [local go_sem] stS_new
set_option maxRecDepth 100000 in
set_option maxHeartbeats 1000000 in
theorem kwalkS_is (h : KF w k s fc x) (q : Who w s p U K a cap gc cc) (hk : (x.nd 0).k = 2) {q0 : Nat} (hp : (x.nd 0).ps = [(q0 : Int)]) (hp0 : q0 ≠ 0) (hp1 : q0 < 256) (hs : (x.nd 0).sz = 16) (hf : (fsec x q0).take 16 = entL) (hk1 : (x.nd 1).k = 1)
    (hM : ∀ w, Calls Tryz.prog 175 #[.agg (stA (x.nd 0)), .agg (crA U K a cap), .int .i64 4] w fun e w' => e = .returned (.tuple #[.bool true, .int .i64 0]) ∧ Below w.heap.size w w') :
    Calls Tryz.prog 94 #[.pointer (some ⟨k.K, 0, none⟩), .int .i64 p, .string ⟨#[47, 102]⟩] w fun e w' => ∃ g cg, e = .returned (.tuple #[.slice (some ⟨g, 0, none⟩) 2 cg, .agg (stA (x.nd 1)), .int .i64 0]) ∧ w'.cell? ⟨g, 1, none⟩ = some (.int .i64 2) ∧ 2 ≤ cg ∧ cg ≤ maxLen ∧ Below w.heap.size w w' := by
  have HB0 := Lib.hid (Go.Joins.below_alloc1 w (.cells #[.int .i64 0, .int .i64 0, .int .i64 0, .int .i64 0, .int .i64 0, .int .i64 0] 35))
  have HR0 : Hid (Row (w.alloc (.cells #[.int .i64 0, .int .i64 0, .int .i64 0, .int .i64 0, .int .i64 0, .int .i64 0] 35)) w.heap.size 35 (stA nd0)) := Lib.hid (row_new w 35 (stA nd0))
  have HPW := Lib.hid (fun wx (hb : Below w.heap.size w wx) => pWalkS_is (h.keep hb).fs hk hp hp0 hp1 hs hf hk1 q.hU q.hK q.hc (q.keep hb).g q.c1 q.c2 hM)
  have HL : Hid (∀ wx, Below w.heap.size w wx → (wx.cell? ⟨k.K, 2, none⟩ = some (.pointer (some ⟨fc.F, 0, none⟩)) ∧ wx.cell? ⟨k.K, 8 + p * 38 + 18, none⟩ = some (.slice none 0 0) ∧ (ldR 63 (.pointer (some ⟨k.K, 8 + p * 38 + 11, none⟩))).run Tryz.prog wx = .ok (.agg (crA U K a cap)) wx ∧ wx.cell? ⟨k.K, 8 + p * 38 + 17, none⟩ = some (.slice (some ⟨gc, 0, none⟩) 1 cc))) := Lib.hid (fun wx hb => ⟨(h.keep hb).fsp, by rw [(h.keep hb).kt.kr.cell (by have := q.p16; omega), q.mt], (h.keep hb).ldcr (q.keep hb), by rw [(h.keep hb).kt.kr.cell (by have := q.p16; omega), q.wd]⟩)
  have HST := Lib.hid (fun wx (hb : Below w.heap.size w wx) => statF_is (h.keep hb).fs (i := 1) (by decide) (n := 2) rfl (by rw [hk1]; decide))
  have i17 : (p : Int) < 17 := by have := q.p16; omega
  clear h q hM hk hp hs hp0 hp1 hf hk1
  generalize x.nd 1 = nd at *
  go_enter Tryz.func94, Tryz.ntmps94
  go_upto_region 2 with fail
  generalize w.alloc (.cells #[.int .i64 0, .int .i64 0, .int .i64 0, .int .i64 0, .int .i64 0, .int .i64 0] 35) = w0 at *
  go_region_held3 (fun wx => wx.cell? ⟨k.K, 2, none⟩ = some (.pointer (some ⟨fc.F, 0, none⟩)) ∧ wx.cell? ⟨k.K, 8 + p * 38 + 18, none⟩ = some (.slice none 0 0) ∧ (ldR 63 (.pointer (some ⟨k.K, 8 + p * 38 + 11, none⟩))).run Tryz.prog wx = .ok (.agg (crA U K a cap)) wx ∧ wx.cell? ⟨k.K, 8 + p * 38 + 17, none⟩ = some (.slice (some ⟨gc, 0, none⟩) 1 cc)) (first | (with_reducible exact HL.out _ HB0.out) | (with_reducible exact HL.out _ HB0.out.drew) | (with_reducible exact HL.out _ HB1.out) | fail)
          (first | (go_at_call 174; (with_reducible refine (HPW.out _ HB0.out.drew).mono ?_); rintro e1 w1 ⟨g1, c1, rfl, y1, q1, q2, hb1⟩; have HB1 := Lib.hid (HB0.out.drew.trans (hb1.mono HB0.out.drew.size)); have HR1 := Lib.hid (HR0.out.drew.keep hb1); clear hb1) | fail)
  have hmx : (c1 : Int) ≤ 9223372036854775807 := by unfold maxLen at q2; omega
  have hm2 : (2 : Int) ≤ (c1 : Int) := by omega
  have HQ := Lib.hid (And.intro q1 q2)
  have hg1 : g1 < w1.heap.size := World.block_lt_of_cell? w1 _ y1
  have a2 := (HL.out _ HB1.out).1
  have HZ2 := Lib.hid (fun k => (row_new w1 35 (#[.int .i64 0, .int .i64 0, .int .i64 0, .int .i64 0, .int .i64 0, .int .i64 0] : Array Value)).keep (below_drewN (Below.refl _ _) k))
  have HBO : Hid (∀ wx, Below w1.heap.size w1 wx → (Below w1.heap.size w1 wx ∧ wx.cell? ⟨k.K, 2, none⟩ = some (.pointer (some ⟨fc.F, 0, none⟩)) ∧ wx.cell? ⟨g1, 1, none⟩ = some (.int .i64 2))) := Lib.hid (fun wx hb => ⟨hb, (HL.out _ (HB1.out.trans (hb.mono HB1.out.size))).1, (hb.cell (p := ⟨g1, 1, none⟩) hg1).trans y1⟩)
  have HS1 : Hid (∀ wx, Below w1.heap.size w1 wx → Calls Tryz.prog 166 #[.pointer (some ⟨fc.F, 0, none⟩), .int .i64 2] wx fun e w' => e = .returned (.tuple #[.agg (stA nd), .int .i64 0]) ∧ Below wx.heap.size wx w') := Lib.hid (fun wx hb => HST.out _ (HB1.out.trans (hb.mono HB1.out.size)))
  have HZ3 := Lib.hid (fun (wx : World) (hb : Below (w1.drew.alloc (.cells #[.int .i64 0, .int .i64 0, .int .i64 0, .int .i64 0, .int .i64 0, .int .i64 0] 35)).heap.size (w1.drew.alloc (.cells #[.int .i64 0, .int .i64 0, .int .i64 0, .int .i64 0, .int .i64 0, .int .i64 0] 35)) wx) => (show Row wx w1.heap.size 35 (#[.int .i64 0, .int .i64 0, .int .i64 0, .int .i64 0, .int .i64 0, .int .i64 0] : Array Value) from (row_new w1.drew 35 (#[.int .i64 0, .int .i64 0, .int .i64 0, .int .i64 0, .int .i64 0, .int .i64 0] : Array Value)).keep hb))
  have HZ4 := Lib.hid (fun (wx : World) (hb : Below (w1.alloc (.cells #[.int .i64 0, .int .i64 0, .int .i64 0, .int .i64 0, .int .i64 0, .int .i64 0] 35)).drew.heap.size (w1.alloc (.cells #[.int .i64 0, .int .i64 0, .int .i64 0, .int .i64 0, .int .i64 0, .int .i64 0] 35)).drew wx) => (row_new w1 35 (#[.int .i64 0, .int .i64 0, .int .i64 0, .int .i64 0, .int .i64 0, .int .i64 0] : Array Value)).drew.keep hb)
  have HZ5 := Lib.hid (fun (wx : World) (hb : Below (w1.alloc (.cells #[.int .i64 0, .int .i64 0, .int .i64 0, .int .i64 0, .int .i64 0, .int .i64 0] 35)).heap.size (w1.alloc (.cells #[.int .i64 0, .int .i64 0, .int .i64 0, .int .i64 0, .int .i64 0, .int .i64 0] 35)) wx) => (row_new w1 35 (#[.int .i64 0, .int .i64 0, .int .i64 0, .int .i64 0, .int .i64 0, .int .i64 0] : Array Value)).keep hb)
  clear HPW HL HST y1 q1 q2 hg1
  have yw : IntKind.i64.wrap 1 = 1 := by decide
  go_upto_region 5 with fail
  go_cut [11, 12] (fun s3 s4 wx => s3 = .int .i64 0 ∧ ∃ b9, s4 = .pointer (some ⟨b9, 0, none⟩) ∧ w1.heap.size ≤ b9 ∧ Below w1.heap.size w1 wx ∧ Row wx b9 35 (stA nd) ∧ wx.cell? ⟨g1, 1, none⟩ = some (.int .i64 2))
  case first =>
    go_region_held3 (fun wx => Below w1.heap.size w1 wx ∧ wx.cell? ⟨k.K, 2, none⟩ = some (.pointer (some ⟨fc.F, 0, none⟩)) ∧ wx.cell? ⟨g1, 1, none⟩ = some (.int .i64 2)) (first | assumption | (with_reducible exact HBO.out _ (Below.refl _ _)) | (with_reducible exact HBO.out _ (Below.refl _ _).drew) | (with_reducible exact HBO.out _ (below_drewN (And.left ‹_›) _)) | (with_reducible exact HBO.out _ (below_setRow (And.left ‹_›) (Nat.le_refl _) _)) | (with_reducible exact HBO.out _ (Below.alloc (And.left ‹_›) (Below.size (And.left ‹_›)) _)) | go_keep)
      (first | (go_at_call 166; refine (HS1.out _ (‹Below w1.heap.size w1 _ ∧ _›).1).mono ?_; rintro e9 w9 ⟨rfl, hb9⟩; have hS := HBO.out _ ((‹Below w1.heap.size w1 _ ∧ _›).1.trans (hb9.mono (‹Below w1.heap.size w1 _ ∧ _›).1.size)); first | have hst := (HZ3.out _ hb9).stS nd | have hst := (HZ4.out _ hb9).stS nd | have hst := (HZ5.out _ hb9).stS nd | skip))
    all_goals go_wp2
    all_goals go_meet
    all_goals first
      | exact ⟨rfl, _, rfl, hS.1.size, hS.1.alloc hS.1.size _, row_new _ _ _, (HBO.out _ (hS.1.alloc hS.1.size _)).2.2⟩
      | exact ⟨rfl, _, rfl, Nat.le_refl _, below_setRow hS.1 (Nat.le_refl _) _, ((HZ3.out _ hb9)).setRow _, (HBO.out _ (below_setRow hS.1 (Nat.le_refl _) _)).2.2⟩
      | exact ⟨rfl, _, rfl, Nat.le_refl _, below_setRow hS.1 (Nat.le_refl _) _, ((HZ4.out _ hb9)).setRow _, (HBO.out _ (below_setRow hS.1 (Nat.le_refl _) _)).2.2⟩
      | exact ⟨rfl, _, rfl, Nat.le_refl _, below_setRow hS.1 (Nat.le_refl _) _, ((HZ5.out _ hb9)).setRow _, (HBO.out _ (below_setRow hS.1 (Nat.le_refl _) _)).2.2⟩
  case rest =>
    obtain ⟨rfl, b9, rfl, hbl, hbc, hr9, y1⟩ := hcut
    have l9 := hr9.drew.ldS
    have HBC := Lib.hid (HB1.out.trans (hbc.drew.mono HB1.out.size))
    have hlt : w.heap.size < w1.heap.size := HR1.out.lt
    have hr0 := (HR1.out.keep hbc).drew
    have st9 := Row.stS' (n' := nd) hr0
    have lv9 := (hr0.setRow (stA nd)).ldVS
    have hne : g1 ≠ w.heap.size := fun e => by
      have z : wc.cell? ⟨w.heap.size, 1, none⟩ = some (.int .i64 0) := (HR1.out.keep hbc).cell 1
      rw [← e, y1] at z
      injection z with z
      injection z with _ z
      exact absurd z (by decide)
    have HG := Lib.hid (show (wc.drew.setRow w.heap.size (stA nd)).cell? ⟨g1, 1, none⟩ = some (.int .i64 2) from ((Upd.setRow (S := fun j => j = w.heap.size) wc.drew (stA nd) rfl).cell (World.block_lt_of_cell? wc _ y1) hne).trans y1)
    clear hbl hbc hr9 y1 hr0 hne HZ2 HZ3 HZ4 HZ5 HBO HS1
    generalize hZ : stA nd = Z at l9 st9 lv9 HG ⊢
    have HZ := Lib.hid hZ
    clear hZ
    go_upto_region 6 with fail
    go_region
    all_goals
      go_wp2_with fail
      exact bodyPost_ret (v := .tuple #[.slice (some ⟨g1, 0, none⟩) 2 c1, .agg Z, .int .i64 0]) (by rw [results_tct rfl]; simp [asAddr, Result.andThen, lv9]) rfl ⟨g1, c1, by rw [HZ.out], HG.out, HQ.out.1, HQ.out.2, HBC.out.trans ((Upd.setRow (S := fun j => j = w.heap.size) wc.drew Z rfl).toBelow HBC.out.size (fun k hk e => by have e : k = w.heap.size := e; omega))⟩
end
section
attribute [local go_sem ↓] ld_sta st_sta
attribute [local go_sem] stS_new
set_option maxRecDepth 100000 in
set_option maxHeartbeats 1000000 in
theorem openedS_is (h : KF w k s fc x) (q : Who w s p U K a cap gc cc) {q0 : Nat} {m : Int} {z : List Int} (hf : FileZ x q0 m z) {A : Array Value} {W : Int} {ok : Bool} (hA1 : A[1]? = some (.int .i64 W)) (hA2 : A[2]? = some (.int .i64 0)) (hA4 : A[4]? = some (.string ⟨#[47, 102]⟩))
    (hM : ∀ w, Calls Tryz.prog 175 #[.agg (stA (x.nd 0)), .agg (crA U K a cap), .int .i64 4] w fun e w' => e = .returned (.tuple #[.bool true, .int .i64 0]) ∧ Below w.heap.size w w')
    (hM2 : ∀ w, Calls Tryz.prog 175 #[.agg (stA (x.nd 1)), .agg (crA U K a cap), .int .i64 W] w fun e w' => e = .returned (.tuple #[.bool ok, .int .i64 0]) ∧ Below w.heap.size w w') :
    Calls Tryz.prog 158 #[.pointer (some ⟨k.K, 0, none⟩), .int .i64 p, .agg A] w fun e w' => e = .returned (.tuple #[.int .i64 (bif ok then 2 else 0), .int .i64 (bif ok then 0 else 7)]) ∧ Below w.heap.size w w' := by
  have hb1 := Go.Joins.below_alloc1 w (.cells A 40)
  have hr1 := row_new w 40 A
  obtain ⟨pv, hn1⟩ := hf.n1
  have hk1 : (x.nd 1).k = 1 := by rw [hn1]
  have HC : Hid (∀ wx, Below (w.alloc (.cells A 40)).heap.size (w.alloc (.cells A 40)) wx → (wx.cell? ⟨w.heap.size, 1, none⟩ = some (.int .i64 W) ∧ wx.cell? ⟨w.heap.size, 2, none⟩ = some (.int .i64 0) ∧ wx.cell? ⟨w.heap.size, 4, none⟩ = some (.string ⟨#[47, 102]⟩))) := Lib.hid (fun wx hb => ⟨((hr1.keep hb).cell 1).trans hA1, ((hr1.keep hb).cell 2).trans hA2, ((hr1.keep hb).cell 4).trans hA4⟩)
  have HW := Lib.hid (kwalkS_is (h.keep hb1) (q.keep hb1) hf.k hf.ps hf.q0 (by have := hf.q1; omega) hf.sz hf.sec hk1 hM)
  have HMY := Lib.hid (fun wx (hb : Below w.heap.size w wx) => kmay_is (h.keep hb) (q.keep hb) (i := 1) (by decide) (n := 2) rfl (by rw [hk1]; decide) hM2)
  have HSA : Hid ((stA (x.nd 1))[0]? = some (.int .i64 1)) := Lib.hid (by show some (Value.int .i64 (x.nd 1).k) = _; rw [hk1])
  obtain ⟨-, -, d4⟩ := HC.out _ (Below.refl _ _)
  have HB1 := Lib.hid hb1
  clear h q hf hM hM2 hb1 hr1 hn1 hk1
  generalize x.nd 1 = nd at *
  go_enter Tryz.func158, Tryz.ntmps158
  go_upto_region 1 with fail
  generalize w.alloc (.cells A 40) = w1 at *
  go_upto_region 2 with (go_at_call 94; (with_reducible refine HW.out.mono ?_); rintro e2 w2 ⟨g2, c2, rfl, y2, q1, q2, hb2⟩)
  have hal := Go.Joins.below_alloc1 w2 (.cells (stA nd) 35)
  have hmx : (c2 : Int) ≤ 9223372036854775807 := by unfold maxLen at q2; omega
  have hm2 : (2 : Int) ≤ (c2 : Int) := by omega
  have HB3 := Lib.hid (hb2.trans (hal.mono hb2.size))
  have y3 := (hal.cell (p := ⟨g2, 1, none⟩) (World.block_lt_of_cell? w2 _ y2)).trans y2
  have s0 : (w2.alloc (.cells (stA nd) 35)).cell? ⟨w2.heap.size, 0, none⟩ = some (.int .i64 1) := ((row_new w2 35 (stA nd)).cell 0).trans HSA.out
  clear hb2 d4 HW hal y2 q1 q2 HSA
  generalize w2.alloc (.cells (stA nd) 35) = w3 at *
  obtain ⟨t1, t2, -⟩ := HC.out _ HB3.out
  have HM3 := Lib.hid (HMY.out _ (HB1.out.trans (HB3.out.mono HB1.out.size)))
  clear HMY
  go_upto_region 16 with (go_at_call 100; (with_reducible refine HM3.out.mono ?_); rintro e4 w4 ⟨rfl, hb4⟩)
  have HB4 := Lib.hid (HB3.out.trans (hb4.mono HB3.out.size))
  obtain ⟨u1, u2, -⟩ := HC.out _ HB4.out
  have HB14 := Lib.hid (HB1.out.trans (HB4.out.mono HB1.out.size))
  clear hb4 HM3 t1 t2 y3 s0
  cases ok
  all_goals
    dsimp only [cond_true, cond_false] at *
    go_wp2_with fail
    go_ret2
    exact ⟨rfl, HB14.out⟩
end
theorem spec_openS (h : KF w0 k s fc x) (q : Who w0 s p U K a cap gc cc) (p1 : 1 ≤ p) {q0 : Nat} {m W : Int} {z : List Int} (hf : FileZ x q0 m z) {C : Int} (hC : 0 ≤ C ∧ C ≤ 511) (hA : A.size = 7) (hA1 : A[1]? = some (.int .i64 W)) (hA2 : A[2]? = some (.int .i64 0)) (hA3 : A[3]? = some (.int .i64 C)) (hA4 : A[4]? = some (.string ⟨#[47, 102]⟩)) (hW : 1 ≤ W ∧ W ≤ 3)
    (hM : MayIs (x.nd 0) U K a cap 4 true) (hM2 : MayIs (x.nd 1) U K a cap W true)
    (hh : x.nh < 1000 ∧ hcn (x.held 2) < 1000) (hf1 : ∃ j, j < 8 ∧ s.fd (p * 8 + j) = 0) (hf2 : ∃ k0, k0 < 32 ∧ (s.fs k0).n = 0) (hg1 : ¬ x.bs gc) (hg2 : gc ≠ k.Fi) :
    Spec w0 (KOutF w0.heap.size k fc s.tag x.bs (fun s' x' g e av _ => e = 0 ∧ ∃ j k0 : Nat, j < 8 ∧ k0 < 32 ∧ s' = OpenTo s p W j k0 ∧ x' = heldTo x ∧ g = gc ∧ av = j)) 84 #[.pointer (some ⟨k.K, 0, none⟩), .int .i64 p, .agg A] := by
  intro w h0
  have h' := h.keep h0
  have q' := q.keep h0
  have hzz : ∀ j, x.bs j → j < w0.heap.size := h.fs.lt
  have hz := h0.size
  have hgc : gc < w0.heap.size := World.block_lt_of_cell? w0 _ q.g
  have hFi : k.Fi < w0.heap.size := h.kt.lt (by rw [h.kt.tFi]; decide)
  refine (kopenA_is h' p1 q.p16 hA hA1 hA2 hA3 hW (.inl rfl) hC (P := fun x' => x' = x) (fun wx hb => (openedS_is (h'.keep hb) (q'.keep hb) hf hA1 hA2 hA4 hM hM2).mono ?_) (fun x' hx' => ?_) hf1 hf2).mono ?_
  · rintro e w' ⟨rfl, hbw⟩
    exact ⟨rfl, x, (h'.keep hb).keep hbw, rfl, Upd.below hbw, fun j e => .inl e⟩
  · subst hx'
    obtain ⟨pv, e⟩ := hf.n1
    exact ⟨by rw [e]; exact (by decide : ¬ (1 : Int) = 0), hh.1, hh.2⟩
  · rintro e w' ⟨j, k0, x2, hj, hk0, rfl, hk, rfl, hu, hs⟩
    have hgg : ¬ (gc = k.Fi ∨ x2.bs gc ∨ w.heap.size ≤ gc) := by
      rintro (e | e | e)
      · exact hg2 e
      · exact hg1 e
      · omega
    refine ⟨_, rfl, (ansN3' _ _ _).1, (ansN3' _ _ _).2, hu.mono fun i hi e => ?_, OpenTo s p W j k0, heldTo x2, gc, 0, j, 0, hk, fun i e => .inl e, hs, (hu.cell (Nat.lt_of_lt_of_le hgc hz) hgg).trans q'.g, .inl hgc, rfl, ⟨rfl, j, k0, hj, hk0, rfl, rfl, rfl, rfl⟩, hu.mono fun i _ e => ?_⟩
    · rcases e with rfl | e | e
      · exact hFi
      · exact hzz i e
      · omega
    · rcases e with rfl | e | e
      · left; rw [h.kt.tFi]; decide
      · exact .inr (.inl e)
      · exact .inr (.inr e)
end
end Go.Proofs.YtcdjkheelbikjaaGreatDoor
