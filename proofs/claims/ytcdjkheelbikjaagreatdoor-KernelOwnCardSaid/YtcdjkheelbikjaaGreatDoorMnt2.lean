/- path's walker over FS: walk at "f" where it is. path.Walk and path.Last over FS at "f". The walk of fs.Mount at a disk on which nothing is: all that the file system is then. Printed by gen_start2.py. -/
import Derived.Test.YtcdjkheelbikjaaGreatDoorPathD
import Derived.Test.YtcdjkheelbikjaaGreatDoorStart
import Derived.Test.YtcdjkheelbikjaaGreatDoorFsE
namespace Go.Proofs.YtcdjkheelbikjaaGreatDoor
open Go.RowKit Go.Maps
set_option linter.unusedVariables false
set_option linter.unusedSimpArgs false
theorem apI_push2 {w : World} {B : Nat} {v : Value} {l : List Int} (h : w.ownsRow B 3 1 v l.length (l.map i64V)) (hB : B ≤ w.heap.size) (x : Int) (h64 : l.length < 100000) :
    ∃ v' w', (apI8 #[v, .slice (some ⟨w.heap.size, 0, none⟩) 1 1]).run Tryz.prog (w.alloc (.cells #[.int .i64 x] 3)) = .ok v' w' ∧ w'.ownsRow B 3 1 v' (l ++ [x]).length ((l ++ [x]).map i64V) ∧ (w.alloc (.cells #[.int .i64 x] 3)).grownBy w' v.ownBlock ∧ Below B w w' ∧ (v'.ownBlock = v.ownBlock ∨ ∃ g, w.heap.size ≤ g ∧ v'.ownBlock = some g) := by
  have hal := (Below.refl B w).alloc hB (.cells #[.int .i64 x] 3)
  obtain ⟨i0, hi, hz0, hz1, hz2⟩ := info_parts infoI8
  obtain ⟨v', w', hr, ho, hg, hq⟩ := run_append_fresh (P := Tryz.prog) (w.alloc (.cells #[.int .i64 x] 3)) B 46 46 3 i0 (.int .i64 0) 1 8 Tryz.underlying46 hi hz0 hz1 hz2 rfl (by decide) v l.length (l.map i64V) (owns_keep h (Go.Joins.below_alloc1 w _)) ⟨w.heap.size, 0, none⟩ 1 1 [.int .i64 x] rfl (cells1_new w (.int .i64 x) 3) (by simp [Value.oneCell']) (by unfold maxLen; omega) (by omega) (Nat.le_trans hB hal.size)
  refine ⟨v', w', hr, ?_, hg, hal.trans ((Below.refl B _).grown hg (Nat.le_trans hB hal.size) (fun g hgg => (h.lt g hgg).1)), ?_⟩
  · rw [List.length_append, List.map_append]
    exact ho
  · rcases hq with hq | ⟨g, h1, h2⟩
    · exact .inl hq
    · exact .inr ⟨g, Nat.le_trans (by simp) h1, h2⟩
section
variable {w : World} {c : FC} {x : FM}
attribute [local go_sem ↓] ld_sta st_sta apI8_eq
attribute [local go_sem] stS_new
set_option maxRecDepth 100000 in
set_option maxHeartbeats 1000000 in
theorem pwalkF_is {b : Nat} {U K : Int} {a sp : Option Addr} {cap cp B : Nat} (h : FSt w c x) (hk : (x.nd 0).k = 2) {p : Nat} (hp : (x.nd 0).ps = [(p : Int)]) (hp0 : p ≠ 0) (hp1 : p < 256) (hs : (x.nd 0).sz = 16) (hf : (fsec x p).take 16 = entL) (hk1 : (x.nd 1).k = 1)
    (hw : Row w b 375 (wkA c.F U K a cap (.slice sp 1 cp))) (ho : w.ownsRow B 3 1 (.slice sp 1 cp) 1 [.int .i64 1]) (hb0 : B ≤ b) (hne : (Value.slice sp 1 cp).ownBlock ≠ some b)
    (hM : ∀ w, Calls Tryz.prog 175 #[.agg (stA (x.nd 0)), .agg (crA U K a cap), .int .i64 4] w fun e w' => e = .returned (.tuple #[.bool true, .int .i64 0]) ∧ Below w.heap.size w w')
    {gl cl : Nat} (hgl : w.cell? ⟨gl, 0, none⟩ = some (.string ⟨#[102]⟩)) (k1 : 1 ≤ cl) (k2 : cl ≤ maxLen) :
    Calls Tryz.prog 247 #[.pointer (some ⟨b, 0, none⟩), .slice (some ⟨gl, 0, none⟩) 1 cl, .bool true] w fun e w' => e = .returned (.int .i64 0) ∧ ∃ g2 c2, Row w' b 375 (wkA c.F U K a cap (.slice g2 2 c2)) ∧ w'.ownsRow B 3 1 (.slice g2 2 c2) 2 [.int .i64 1, .int .i64 2] ∧ Below B w w' := by
  obtain ⟨g, rfl, hgB, hg, h1, h2, h3⟩ := own1 ho
  have hgb : g ≠ b := fun e => hne (by rw [e]; rfl)
  have HMAY := Lib.hid (pmay_is h hk hw h3 h1 h2 hM)
  have HTOP := Lib.hid (fun wx (hb : Below w.heap.size w wx) => ptop_is (hw.keep hb) ((hb.cell (p := ⟨g, 0, none⟩) hg).trans h3) h1 h2)
  have HLK := Lib.hid (fun wx (hb : Below w.heap.size w wx) => look1_is (h.keep hb) (i := 0) (by decide) (n := 1) rfl hk hp hp0 hp1 hs hf)
  have HST := Lib.hid (fun wx (hb : Below w.heap.size w wx) => statF_is (h.keep hb) (i := 1) (by decide) (n := 2) rfl (by rw [hk1]; decide))
  have HC0 := Lib.hid (fun wx (hb : Below w.heap.size w wx) => (show wx.cell? ⟨b, 0, none⟩ = some (.iface 71 (.pointer (some ⟨c.F, 0, none⟩))) from (hw.keep hb).cell 0))
  have hms := method_look
  have hmt := method_stat
  have hcm : (cl : Int) ≤ 9223372036854775807 := by unfold maxLen at k2; omega
  have hc1 : (1 : Int) ≤ (cl : Int) := by omega
  have HW := Lib.hid (And.intro hw (And.intro ho (And.intro hb0 hgb)))
  have HSA : Hid ((stA (x.nd 1))[0]? = some (.int .i64 1)) := Lib.hid (by show some (Value.int .i64 (x.nd 1).k) = _; rw [hk1])
  have HBB : Hid (B ≤ w.heap.size) := Lib.hid (by omega)
  clear h hk hp hs hw h3 h1 h2 hM hg k2 hp0 hp1 hf hk1 ho hb0 hne hgB hgb
  generalize x.nd 1 = nd at *
  go_enter Tryz.func247, Tryz.ntmps247
  go_wp2_with fail
  refine wp_loop_rounds 2 ?_
  rw [rounds_succ]
  go_upto_region 12 with (go_at_call 297; (with_reducible refine HMAY.out.mono ?_); rintro e1 w1 ⟨rfl, hb1⟩)
  have HB1 := Lib.hid hb1
  generalize (if cl = 1 then (some ⟨gl, 0, none⟩ : Option Addr) else some ⟨gl, 1, none⟩) = al at *
  have a0 := HC0.out _ hb1
  have HBO : Hid (∀ wx, Below w1.heap.size w1 wx → (Below w1.heap.size w1 wx ∧ wx.cell? ⟨b, 0, none⟩ = some (.iface 71 (.pointer (some ⟨c.F, 0, none⟩))))) := Lib.hid (fun wx hb => ⟨hb, HC0.out _ (HB1.out.trans (hb.mono HB1.out.size))⟩)
  have HT1 : Hid (∀ wx, Below w1.heap.size w1 wx → Calls Tryz.prog 303 #[.pointer (some ⟨b, 0, none⟩)] wx fun e w' => e = .returned (.int .i64 1) ∧ ∃ k, w' = wx.drewN k) := Lib.hid (fun wx hb => HTOP.out _ (HB1.out.trans (hb.mono HB1.out.size)))
  have HL1 : Hid (∀ wx, Below w1.heap.size w1 wx → Calls Tryz.prog 66 #[.pointer (some ⟨c.F, 0, none⟩), .int .i64 1, .string ⟨#[102]⟩] wx fun e w' => e = .returned (.tuple #[.int .i64 2, .int .i64 0]) ∧ Below wx.heap.size wx w') := Lib.hid (fun wx hb => HLK.out _ (HB1.out.trans (hb.mono HB1.out.size)))
  clear hb1 HMAY HTOP HLK
  go_region_held3 (fun wx => wx.cell? ⟨b, 0, none⟩ = some (.iface 71 (.pointer (some ⟨c.F, 0, none⟩)))) (first | (with_reducible exact (HBO.out _ (Below.refl _ _)).2) | (with_reducible exact (HBO.out _ (Below.refl _ _).drew).2) | (with_reducible exact (HBO.out _ (below_drewN (Below.refl _ _) _)).2) | (with_reducible exact (HBO.out _ HB2.out).2) | fail)
      (first | (go_at_call 303; (with_reducible refine (HT1.out _ (Below.refl _ _).drew).mono ?_); rintro e9 w9 ⟨rfl, k9, rfl⟩) | (go_at_call 66; (with_reducible refine (HL1.out _ (below_drewN (Below.refl _ _) _)).mono ?_); rintro e2 w2 ⟨rfl, hb2⟩; have HB2 := Lib.hid ((below_drewN (Below.refl w1.heap.size w1) _).trans hb2); clear hb2))
  have HBt := Lib.hid (HB1.out.trans (HB2.out.mono HB1.out.size))
  have a2 := HC0.out _ HBt.out
  have HS2 := Lib.hid (HST.out _ HBt.out)
  clear a0 hms HBO HT1 HL1 HST HC0 HB1 HB2
  go_upto_region 18 with (go_at_call 166; (with_reducible refine HS2.out.mono ?_); rintro e3 w3 ⟨rfl, hb3⟩)
  have hb4 := hb3.alloc hb3.size (.cells (stA nd) 35)
  have q0 : (w3.alloc (.cells (stA nd) 35)).cell? ⟨w3.heap.size, 0, none⟩ = some (.int .i64 1) := ((row_new w3 35 (stA nd)).cell 0).trans HSA.out
  generalize w3.alloc (.cells (stA nd) 35) = w4 at *
  have HB4 := Lib.hid (HBt.out.trans (hb4.mono HBt.out.size))
  have a4 : w4.cell? ⟨b, 1, none⟩ = some (.slice none 0 0) := (HW.out.1.keep HB4.out).cell 1
  have HD := Lib.hid (mdowns_is 2 (by decide) (by decide) w4)
  clear hb3 hb4 a2 hmt HS2 HBt HSA
  go_upto_region 26 with (go_at_call 305; (with_reducible refine HD.out.mono ?_); rintro e5 w5 ⟨rfl, hb5⟩)
  have HB5 := Lib.hid (HB4.out.trans (hb5.mono HB4.out.size))
  obtain ⟨hw, ho, hb0, hgb⟩ := HW.out
  have hw5 := hw.keep HB5.out
  obtain ⟨v6, w6, hap, ho6, hg6, hb6, hq6⟩ := apI_push2 (l := [1]) (owns_keep ho HB5.out) (Nat.le_trans HBB.out HB5.out.size) 2 (by decide)
  obtain ⟨g6, c6, rfl⟩ := own_form ho6
  have hap : (apI8 #[.slice (some ⟨g, 0, none⟩) 1 cp, .slice (some ⟨w5.heap.size, 0, none⟩) 1 1]).run Tryz.prog (w5.alloc (.cells #[.int .i64 2] 3)) = .ok (.slice g6 2 c6) w6 := hap
  have b8 : w5.cell? ⟨b, 8, none⟩ = some (.slice (some ⟨g, 0, none⟩) 1 cp) := hw5.cell 8
  have hw6 : Row w6 b 375 (wkA c.F U K a cap (.slice (some ⟨g, 0, none⟩) 1 cp)) := (hw5.alloc _).kept hg6 (fun e => hgb (by injection e.symm))
  have z8 := hw6.fz 8
  have y8 : w6.cell? ⟨b, 8, none⟩ = some (.slice (some ⟨g, 0, none⟩) 1 cp) := hw6.cell 8
  have HN6 : Hid ((Value.slice g6 2 c6).ownBlock ≠ some b) := Lib.hid (fun e => by
    rcases hq6 with q | ⟨g', q1, q2⟩
    · have q : some b = some g := e.symm.trans q
      exact hgb (by injection q with q; exact q.symm)
    · have := hw5.lt
      have q : some b = some g' := e.symm.trans q2
      injection q with q
      omega)
  have H6 := Lib.hid (And.intro hw6 (And.intro ho6 (And.intro hb0 ((HB5.out.mono HBB.out).trans hb6))))
  clear hq6 hb5 a4 q0 HD HB4 hw ho hb0 hgb hw5 ho6 hg6 hb6 hw6
  go_wp2_with fail
  rw [rounds_succ]
  go_wp2_with fail
  go_ret
  obtain ⟨r6, o6, b6, u6⟩ := H6.out
  refine ⟨rfl, g6, c6, ?_, ?_, ?_⟩
  · rw [r6.setCell]; exact r6.setRow _
  · exact owns_set o6 HN6.out
  · exact u6.trans ((Upd.set (S := fun j => j = b) w6 (b := b) (i := 8) (.slice g6 2 c6) rfl).toBelow (Nat.le_trans HBB.out u6.size) (fun k hk e => by have e : k = b := e; omega))
end
end Go.Proofs.YtcdjkheelbikjaaGreatDoor
namespace Go.Proofs.YtcdjkheelbikjaaGreatDoor
open Go.RowKit Go.Maps
set_option linter.unusedVariables false
set_option linter.unusedSimpArgs false
section
variable {w : World} {c : FC} {x : FM}
attribute [local go_sem ↓] ld_crd
set_option maxRecDepth 100000 in
set_option maxHeartbeats 800000 in
theorem pWalkN_is {U K : Int} {a : Option Addr} {cap gc cc : Nat} (h : FSt w c x) (hk : (x.nd 0).k = 2) (hp : (x.nd 0).ps = []) (hs : (x.nd 0).sz = 0) (hU : 0 ≤ U ∧ U ≤ 99) (hK : 0 ≤ K ∧ K ≤ 127) (hc : cap ≤ maxLen) (h0 : w.cell? ⟨gc, 0, none⟩ = some (.int .i64 1)) (h1 : 1 ≤ cc) (h2 : cc ≤ maxLen)
    (hM : ∀ w, Calls Tryz.prog 175 #[.agg (stA (x.nd 0)), .agg (crA U K a cap), .int .i64 4] w fun e w' => e = .returned (.tuple #[.bool true, .int .i64 0]) ∧ Below w.heap.size w w') :
    Calls Tryz.prog 174 #[.iface 71 (.pointer (some ⟨c.F, 0, none⟩)), .slice none 0 0, .agg (crA U K a cap), .slice (some ⟨gc, 0, none⟩) 1 cc, .string ⟨#[102]⟩, .bool true] w fun e w' => e = .returned (.tuple #[.slice none 0 0, .int .i64 4]) ∧ Below w.heap.size w w' := by
  have hr := row_new w 63 (crA U K a cap)
  have l0 := hr.ld0 Tryz.underlying63 rfl (by unfold crA; kernel_rfl)
  have hal := Go.Joins.below_alloc1 w (.cells (crA U K a cap) 63)
  have hlt : gc < w.heap.size := World.block_lt_of_cell? w _ h0
  have HS := Lib.hid (pstart_is (w.alloc (.cells (crA U K a cap) 63)) c.F hU hK a cap hc ((hal.cell (p := ⟨gc, 0, none⟩) hlt).trans h0) h1 h2)
  have h' := h.keep hal
  have HW : Hid (∀ w1 W sp cp gl cl, Below (w.alloc (.cells (crA U K a cap) 63)).heap.size (w.alloc (.cells (crA U K a cap) 63)) w1 → Row w1 W 375 (wkA c.F U K a cap (.slice sp 1 cp)) → w1.ownsRow (w.alloc (.cells (crA U K a cap) 63)).heap.size 3 1 (.slice sp 1 cp) 1 [.int .i64 1] → w1.cell? ⟨gl, 0, none⟩ = some (.string ⟨#[102]⟩) → 1 ≤ cl → cl ≤ maxLen → Calls Tryz.prog 247 #[.pointer (some ⟨W, 0, none⟩), .slice (some ⟨gl, 0, none⟩) 1 cl, .bool true] w1 fun e w' => e = .returned (.int .i64 4) ∧ Below w1.heap.size w1 w') := Lib.hid (fun w1 W sp cp gl cl hb hw ho hgl k1 k2 => by
    obtain ⟨g, rfl, hgB, hg, q1, q2, q3⟩ := own1 ho
    exact pwalkN_is (h'.keep hb) hk hp hs hw q3 q1 q2 hM hgl k1 k2)
  have HB := Lib.hid hal
  clear hr hal hlt h h' hk hp hs hU hK hc h0 h1 h2 hM
  generalize crA U K a cap = A at *
  generalize hw0 : w.alloc (.cells A 63) = w0 at *
  go_enter Tryz.func174, Tryz.ntmps174
  go_upto_region 4 with (go_at_call 246; (with_reducible refine HS.out.mono ?_); rintro e1 w1 ⟨W, sp, cp, gl, cl, rfl, hW, hrw, how, hn, hn2, hn3, hn4, hgl, k1, k2, hb1⟩)
  have HW1 := Lib.hid (HW.out w1 W sp cp gl cl hb1 hrw how hgl k1 k2)
  have HB1 := Lib.hid (HB.out.trans (hb1.mono HB.out.size))
  clear hW hrw how hn hn2 hn3 hn4 hgl k1 k2 hb1
  go_wp2_with (go_at_call 247; (with_reducible refine HW1.out.mono ?_); rintro e2 w2 ⟨rfl, hb2⟩)
  go_ret2
  exact ⟨rfl, HB1.out.trans (hb2.mono HB1.out.size)⟩
set_option maxRecDepth 100000 in
set_option maxHeartbeats 800000 in
theorem pWalkF_is {U K : Int} {a : Option Addr} {cap gc cc : Nat} (h : FSt w c x) (hk : (x.nd 0).k = 2) {p : Nat} (hp : (x.nd 0).ps = [(p : Int)]) (hp0 : p ≠ 0) (hp1 : p < 256) (hs : (x.nd 0).sz = 16) (hf : (fsec x p).take 16 = entL) (hk1 : (x.nd 1).k = 1) (hU : 0 ≤ U ∧ U ≤ 99) (hK : 0 ≤ K ∧ K ≤ 127) (hc : cap ≤ maxLen) (h0 : w.cell? ⟨gc, 0, none⟩ = some (.int .i64 1)) (h1 : 1 ≤ cc) (h2 : cc ≤ maxLen)
    (hM : ∀ w, Calls Tryz.prog 175 #[.agg (stA (x.nd 0)), .agg (crA U K a cap), .int .i64 4] w fun e w' => e = .returned (.tuple #[.bool true, .int .i64 0]) ∧ Below w.heap.size w w') :
    Calls Tryz.prog 174 #[.iface 71 (.pointer (some ⟨c.F, 0, none⟩)), .slice none 0 0, .agg (crA U K a cap), .slice (some ⟨gc, 0, none⟩) 1 cc, .string ⟨#[102]⟩, .bool true] w fun e w' => ∃ g cg, e = .returned (.tuple #[.slice (some ⟨g, 0, none⟩) 2 cg, .int .i64 0]) ∧ w'.cell? ⟨g, 1, none⟩ = some (.int .i64 2) ∧ 2 ≤ cg ∧ cg ≤ maxLen ∧ Below w.heap.size w w' := by
  have hr := row_new w 63 (crA U K a cap)
  have l0 := hr.ld0 Tryz.underlying63 rfl (by unfold crA; kernel_rfl)
  have hal := Go.Joins.below_alloc1 w (.cells (crA U K a cap) 63)
  have hlt : gc < w.heap.size := World.block_lt_of_cell? w _ h0
  have HS := Lib.hid (pstart_is (w.alloc (.cells (crA U K a cap) 63)) c.F hU hK a cap hc ((hal.cell (p := ⟨gc, 0, none⟩) hlt).trans h0) h1 h2)
  have h' := h.keep hal
  have HW : Hid (∀ w1 W sp cp gl cl, Below (w.alloc (.cells (crA U K a cap) 63)).heap.size (w.alloc (.cells (crA U K a cap) 63)) w1 → (w.alloc (.cells (crA U K a cap) 63)).heap.size ≤ W → Row w1 W 375 (wkA c.F U K a cap (.slice sp 1 cp)) → w1.ownsRow (w.alloc (.cells (crA U K a cap) 63)).heap.size 3 1 (.slice sp 1 cp) 1 [.int .i64 1] → (Value.slice sp 1 cp).ownBlock ≠ some W → w1.cell? ⟨gl, 0, none⟩ = some (.string ⟨#[102]⟩) → 1 ≤ cl → cl ≤ maxLen → Calls Tryz.prog 247 #[.pointer (some ⟨W, 0, none⟩), .slice (some ⟨gl, 0, none⟩) 1 cl, .bool true] w1 fun e w' => e = .returned (.int .i64 0) ∧ ∃ g2 c2, Row w' W 375 (wkA c.F U K a cap (.slice g2 2 c2)) ∧ w'.ownsRow (w.alloc (.cells (crA U K a cap) 63)).heap.size 3 1 (.slice g2 2 c2) 2 [.int .i64 1, .int .i64 2] ∧ Below (w.alloc (.cells (crA U K a cap) 63)).heap.size w1 w') := Lib.hid (fun w1 W sp cp gl cl hb hWs hw ho hne hgl k1 k2 =>
    pwalkF_is (h'.keep hb) hk hp hp0 hp1 hs hf hk1 hw ho hWs hne hM hgl k1 k2)
  have HB := Lib.hid hal
  clear hr hal hlt h h' hk hp hs hU hK hc h0 h1 h2 hM hp0 hp1 hf hk1
  generalize crA U K a cap = A at *
  generalize hw0 : w.alloc (.cells A 63) = w0 at *
  go_enter Tryz.func174, Tryz.ntmps174
  go_upto_region 4 with (go_at_call 246; (with_reducible refine HS.out.mono ?_); rintro e1 w1 ⟨W, sp, cp, gl, cl, rfl, hW, hrw, how, hn, hn2, hn3, hn4, hgl, k1, k2, hb1⟩)
  have HW1 := Lib.hid (HW.out w1 W sp cp gl cl hb1 hW hrw how hn hgl k1 k2)
  have HB1 := Lib.hid hb1
  clear hW hrw how hn hn2 hn3 hn4 hgl k1 k2 hb1
  go_upto_region 7 with (go_at_call 247; (with_reducible refine HW1.out.mono ?_); rintro e2 w2 ⟨rfl, g2, c2, hw2, ho2, hb2⟩)
  have b8 : w2.cell? ⟨W, 8, none⟩ = some (.slice g2 2 c2) := hw2.cell 8
  have HCL := Lib.hid (cloneI_is (l := [1, 2]) (by decide) (at_of_owned (d := 0) (f := i64V) (xs := [1, 2]) ho2))
  have HB2 := Lib.hid (HB.out.trans ((HB1.out.trans hb2).mono HB.out.size))
  clear hw2 ho2 hb2
  go_wp2_with (go_at_call 135; (with_reducible refine HCL.out.mono ?_); rintro e3 w3 ⟨v3, rfl, ho3, hb3⟩; obtain ⟨p3, c3, rfl⟩ := own_form ho3)
  obtain ⟨g3, rfl, q1, q2, q3, q4⟩ := own_block ho3 (by decide)
  go_ret2
  exact ⟨g3, c3, rfl, ho3.cells (g := g3) rfl 1 (.int .i64 2) rfl, q3, q4, HB2.out.trans (hb3.mono HB2.out.size)⟩
set_option maxRecDepth 100000 in
set_option maxHeartbeats 800000 in
theorem pLast_is {U K : Int} {a : Option Addr} {cap gc cc : Nat} (h : FSt w c x) (hk : (x.nd 0).k = 2) (hU : 0 ≤ U ∧ U ≤ 99) (hK : 0 ≤ K ∧ K ≤ 127) (hc : cap ≤ maxLen) (h0 : w.cell? ⟨gc, 0, none⟩ = some (.int .i64 1)) (h1 : 1 ≤ cc) (h2 : cc ≤ maxLen)
    (hM : ∀ w, Calls Tryz.prog 175 #[.agg (stA (x.nd 0)), .agg (crA U K a cap), .int .i64 4] w fun e w' => e = .returned (.tuple #[.bool true, .int .i64 0]) ∧ Below w.heap.size w w') :
    Calls Tryz.prog 238 #[.iface 71 (.pointer (some ⟨c.F, 0, none⟩)), .slice none 0 0, .agg (crA U K a cap), .slice (some ⟨gc, 0, none⟩) 1 cc, .string ⟨#[102]⟩] w fun e w' => ∃ g cg, e = .returned (.tuple #[.slice (some ⟨g, 0, none⟩) 1 cg, .string ⟨#[102]⟩, .int .i64 0]) ∧ w'.cell? ⟨g, 0, none⟩ = some (.int .i64 1) ∧ 1 ≤ cg ∧ cg ≤ maxLen ∧ Below w.heap.size w w' := by
  have hr := row_new w 63 (crA U K a cap)
  have l0 := hr.ld0 Tryz.underlying63 rfl (by unfold crA; kernel_rfl)
  have hal := Go.Joins.below_alloc1 w (.cells (crA U K a cap) 63)
  have hlt : gc < w.heap.size := World.block_lt_of_cell? w _ h0
  have HS := Lib.hid (pstart_is (w.alloc (.cells (crA U K a cap) 63)) c.F hU hK a cap hc ((hal.cell (p := ⟨gc, 0, none⟩) hlt).trans h0) h1 h2)
  have h' := h.keep hal
  have HM : Hid (∀ w1 W sp cp, Below (w.alloc (.cells (crA U K a cap) 63)).heap.size (w.alloc (.cells (crA U K a cap) 63)) w1 → Row w1 W 375 (wkA c.F U K a cap (.slice sp 1 cp)) → w1.ownsRow (w.alloc (.cells (crA U K a cap) 63)).heap.size 3 1 (.slice sp 1 cp) 1 [.int .i64 1] → Calls Tryz.prog 297 #[.pointer (some ⟨W, 0, none⟩)] w1 fun e w' => e = .returned (.int .i64 0) ∧ Below w1.heap.size w1 w') := Lib.hid (fun w1 W sp cp hb hw ho => by
    obtain ⟨g, rfl, hgB, hg, q1, q2, q3⟩ := own1 ho
    exact pmay_is (h'.keep hb) hk hw q3 q1 q2 hM)
  have HB := Lib.hid hal
  clear hr hal hlt h h' hk hU hK hc h0 h1 h2 hM
  generalize crA U K a cap = A at *
  generalize hw0 : w.alloc (.cells A 63) = w0 at *
  go_enter Tryz.func238, Tryz.ntmps238
  go_upto_region 2 with (go_at_call 246; (with_reducible refine HS.out.mono ?_); rintro e1 w1 ⟨W, sp, cp, gl, cl, rfl, hW, hrw, how, hn, hn2, hn3, hn4, hgl, k1, k2, hb1⟩)
  have HM1 := Lib.hid (HM.out w1 W sp cp hb1 hrw how)
  have HB1 := Lib.hid (HB.out.trans (hb1.mono HB.out.size))
  have HR1 := Lib.hid (And.intro hrw how)
  have hlgl : gl < w1.heap.size := World.block_lt_of_cell? w1 _ hgl
  have hlm : (cl : Int) ≤ 9223372036854775807 := by unfold maxLen at k2; omega
  have HP := Lib.hid (pwalk0_is w1 W gl cl k2)
  clear hW hrw how hn hn2 hn3 hn4 hb1 k2
  go_upto_region 12 with (first | (go_at_call 247; (with_reducible refine HP.out.mono ?_); rintro e2 w2 ⟨rfl, rfl⟩) | (go_at_call 297; (with_reducible refine HM1.out.mono ?_); rintro e3 w3 ⟨rfl, hb3⟩))
  have HB3 := Lib.hid hb3
  have HL : Hid (∀ wx, Below w1.heap.size w1 wx → (wx.cell? ⟨W, 8, none⟩ = some (.slice sp 1 cp) ∧ wx.cell? ⟨gl, 0, none⟩ = some (.string ⟨#[102]⟩))) := Lib.hid (fun wx hb => ⟨(HR1.out.1.keep hb).cell 8, (hb.cell (p := ⟨gl, 0, none⟩) hlgl).trans hgl⟩)
  have HCL : Hid (∀ wx, Below w1.heap.size w1 wx → Calls Tryz.prog 135 #[.slice sp 1 cp] wx (CloneI [1] wx)) := Lib.hid (fun wx hb => cloneI_is (l := [1]) (by decide) (at_of_owned (d := 0) (f := i64V) (xs := [1]) (owns_keep HR1.out.2 hb)))
  clear hb3 hgl hlgl HM1 HP
  have yw : IntKind.i64.wrap 0 = 0 := by decide
  go_region_held3 (fun wx => wx.cell? ⟨W, 8, none⟩ = some (.slice sp 1 cp) ∧ wx.cell? ⟨gl, 0, none⟩ = some (.string ⟨#[102]⟩)) (first | (with_reducible exact HL.out _ HB3.out) | (with_reducible exact HL.out _ HB3.out.drew) | (with_reducible exact HL.out _ HB4.out) | fail) (first | (go_at_call 135; (with_reducible refine (HCL.out _ HB3.out.drew).mono ?_); rintro e4 w4 ⟨v4, rfl, ho4, hb4⟩; obtain ⟨pa, pc, rfl⟩ := own_form ho4; have HO := Lib.hid ho4; have HB4 := Lib.hid (HB3.out.drew.trans (hb4.mono HB3.out.drew.size)); clear ho4 hb4) | fail)
  all_goals
    obtain ⟨g3, rfl, q1, q2, q3, q4⟩ := own_block HO.out (by decide)
    go_wp2_with fail
    go_ret3
    exact ⟨g3, pc, rfl, HO.out.cells (g := g3) rfl 0 (.int .i64 1) rfl, q3, q4, HB1.out.trans (HB4.out.mono HB1.out.size)⟩
end
end Go.Proofs.YtcdjkheelbikjaaGreatDoor
namespace Go.Proofs.YtcdjkheelbikjaaGreatDoor
open Go.RowKit
set_option linter.unusedVariables false
set_option linter.unusedSimpArgs false
/-- a file system on which nothing is, and all its parts -/
structure FSy (w : World) (B F D L a : Nat) : Prop where
  o : FSw w B F D L a
  x : ∃ p c b, w.heap[F]? = some (.cells (fsA (.pointer (some ⟨D, 0, none⟩)) (.pointer (some ⟨L, 0, none⟩)) (.slice p 32 c) a b) 150 (0, 0)) ∧ ON B w (.slice p 32 c) 32 ∧ w.heap[b]? = some (.map #[] 0) ∧ L < a ∧ a < b ∧ b < F ∧ ∀ N, (Value.slice p 32 c).ownBlock = some N → N < a
theorem FSy.updB {S : Nat → Prop} {w w' : World} {B F D L a : Nat} (h : FSy w B F D L a) (hu : Upd S w w') (hS : ∀ k, S k → k < B) : FSy w' B F D L a := by
  have lt : ∀ {k o}, w.heap[k]? = some o → k < w.heap.size := fun h => (Array.getElem?_eq_some_iff.1 h).1
  obtain ⟨p, c, b, h1, h2, h3, h4, h5, h6, h7⟩ := h.x
  have n1 := h.o.f0
  have n2 := h.o.a0
  exact ⟨h.o.updB hu hS, p, c, b, (hu.block F (lt h1) (fun q => by have := hS _ q; omega)).trans h1, hu.owns h2 (fun j e q => by have := hS _ q; have := (h2.lt j e).1; omega), (hu.block b (lt h3) (fun q => by have := hS _ q; omega)).trans h3, h4, h5, h6, h7⟩
theorem FSy.keep {w w' : World} {B F D L a : Nat} (h : FSy w B F D L a) (hb : Below w.heap.size w w') : FSy w' B F D L a := h.updB (S := fun _ => False) (Upd.below hb) (fun _ e => e.elim)
attribute [local go_sem ↓] ld_for ld_tre st_for bd_fs
section
variable {w w' : World} {D sb nb m : Nat} {wv : Value} {s f : List Int}
set_option maxRecDepth 100000 in
set_option maxHeartbeats 1000000 in
theorem mount2_is (h : Dk w D sb nb wv m 256 s f) (hf : Fmt f) : Calls Tryz.prog 30 #[.pointer (some ⟨D, 0, none⟩)] w fun e w' => ∃ F L a, e = .returned (.tuple #[.pointer (some ⟨F, 0, none⟩), .int .i64 0]) ∧ FSy w' w.heap.size F D L a ∧ Below w.heap.size w w' := by
  have hmm := @run_makeMap Tryz.prog
  have HD := Lib.hid h
  have HF := Lib.hid hf
  have HRD := Lib.hid (read_is h (k := 0) (by decide))
  rw [hf.s0] at HRD
  have hz : Tryz.zeroCells128 = forA (fun _ => 0) := by kernel_rfl
  clear h hf
  go_enter Tryz.func30, Tryz.ntmps30
  go_upto_region 2 with (go_at_call 56; refine HRD.out.mono ?_; rintro e1 w1 ⟨v1, rfl, ho1, hb1⟩)
  have HD1 := Lib.hid (HD.out.keep hb1)
  have HB1 := Lib.hid hb1
  have HA1 := Lib.hid (at_of_owned (f := Value.int .u8) (d := 0) (xs := markL) ho1)
  have HSZ := Lib.hid (size_is HD1.out)
  have HMK := Lib.hid (mark_is w1)
  clear ho1 hb1 HRD HD
  go_upto_region 4 with (first | (go_at_call 49; refine HSZ.out.mono ?_; rintro e2 w2 ⟨rfl, rfl⟩) | (go_at_call 54; refine HMK.out.mono ?_; rintro e2 w2 ⟨v2, rfl, ho2, hb2⟩; have HD2 := Lib.hid (HD1.out.keep hb2); have HB2 := Lib.hid (HB1.out.trans (hb2.mono HB1.out.size)); have HEQ := Lib.hid (equalB_is (by decide) (HA1.out.keep hb2) ho2.at); clear ho2 hb2) | (go_at_call 8; refine HEQ.out.mono ?_; rintro e3 w3 ⟨rfl, hb3⟩; have HD3 := Lib.hid (HD2.out.keep hb3); have HB3 := Lib.hid (HB2.out.trans (hb3.mono HB2.out.size)); clear hb3))
  clear HD1 HD2 HB1 HB2 HA1 HSZ HMK HEQ
  have HJ := Lib.hid (jopen_is HD3.out HF.out.s5)
  go_upto_region 5 with (go_at_call 57; refine HJ.out.mono ?_; rintro e4 w4 ⟨L, rfl, hL, hlog, hb4⟩)
  have HD4 := Lib.hid (HD3.out.keep hb4)
  have HB4 := Lib.hid (HB3.out.trans (hb4.mono HB3.out.size))
  have HL4 : Hid (w.heap.size ≤ L) := Lib.hid (Nat.le_trans HB3.out.size hL)
  have HLL : Hid (Row w4 L 239 _) := Lib.hid hlog
  clear HD3 HB3 HJ hL hlog hb4
  have HCL := Lib.hid (cload_is HD4.out gF_fl HF.out.fo)
  have HSA := Lib.hid (forA_size gF)
  have HZS := Lib.hid (forA_size (fun _ => 0))
  have HO1 := Lib.hid (forA_one gF)
  have hbd := bd_run
  obtain ⟨Z, hZ⟩ : ∃ Z, Z = forA (fun _ => 0) := ⟨_, rfl⟩
  rw [← hZ] at hz HZS
  obtain ⟨A, hA⟩ : ∃ A, A = forA gF := ⟨_, rfl⟩
  rw [← hA] at HCL HSA HO1 hbd
  have HAE := Lib.hid hA
  clear hA hZ
  go_upto_region 8 with (go_at_call 58; refine HCL.out.mono ?_; rintro e5 w5 ⟨rfl, hb5⟩; have st5 := st0_new w5 (T := 128) (c := Z) (cs := A) (by rw [HSA.out, HZS.out]) (by rw [HSA.out]; kernel_rfl) HO1.out)
  have HR5 := Lib.hid (row_new w5 128 A)
  have hal := (hb5.trans ((Go.Joins.below_alloc1 w5 (.cells A 128)).mono hb5.size))
  have HD5 := Lib.hid (HD4.out.keep hal)
  have HB5 := Lib.hid (HB4.out.trans (hal.mono HB4.out.size))
  have HL5 := Lib.hid (HLL.out.keep hal)
  clear HD4 HB4 HLL HCL hal hb5 st5
  generalize w5.alloc (.cells A 128) = w6 at *
  have HZ6 : Hid (w.heap.size ≤ w6.heap.size) := Lib.hid HB5.out.size
  have l6 : (ldR 126 (.pointer (some ⟨w5.heap.size, 0, none⟩))).run Tryz.prog w6 = .ok (.agg (treA gF)) w6 := by
    have := HR5.out.ld (o := 0) (n := 48) (by rw [HSA.out]; decide) Tryz.underlying126 rfl (by kernel_rfl)
    have e := forA_tre gF (k := 0) (by decide)
    rw [Nat.zero_mul] at e
    rw [HAE.out, e] at this
    simpa using this
  have HCT := Lib.hid (ctree_is HD5.out HF.out.nd (G := gF) (fun i hi => by unfold gF; rw [if_pos hi]))
  generalize treA gF = T0 at *
  go_upto_region 11 with (go_at_call 59; refine HCT.out.mono ?_; rintro e7 w7 ⟨v7, rfl, ho7, hb7⟩)
  have HD7 := Lib.hid (HD5.out.keep hb7)
  have HB7 := Lib.hid (HB5.out.trans (hb7.mono HB5.out.size))
  have HL7 := Lib.hid (HL5.out.keep hb7)
  have HR7 := Lib.hid (HR5.out.keep hb7)
  have HN7 := Lib.hid ho7
  clear HD5 HB5 HL5 HR5 HCT l6 ho7 hb7
  have HRQ := Lib.hid (read_is HD7.out (k := 4) (by decide))
  rw [HF.out.s4] at HRQ
  go_upto_region 14 with (go_at_call 56; refine HRQ.out.mono ?_; rintro e8 w8 ⟨v8, rfl, ho8, hb8⟩)
  have HB8 := Lib.hid (HB7.out.trans (hb8.mono HB7.out.size))
  have HL8 := Lib.hid (HL7.out.keep hb8)
  have HR8 := Lib.hid (HR7.out.keep hb8)
  have HN8 := Lib.hid (HN7.out.keep hb8)
  have HQU := Lib.hid (qunpack_is (at_of_owned (f := Value.int .u8) (d := 0) (xs := zeros 64) ho8))
  clear HD7 HB7 HL7 HR7 HN7 HRQ ho8 hb8
  go_upto_region 15 with (go_at_call 60; refine HQU.out.mono ?_; rintro e9 w9 ⟨rfl, hb9⟩)
  have HB9 := Lib.hid (HB8.out.trans (hb9.mono HB8.out.size))
  have HL9 := Lib.hid (HL8.out.keep hb9)
  have hr9 := HR8.out.keep hb9
  have HN9 := Lib.hid (HN8.out.keep hb9)
  have l9 := hr9.ld0 Tryz.underlying128 rfl (by rw [HSA.out]; kernel_rfl)
  clear HB8 HL8 HR8 HN8 HQU hb9 hr9
  obtain ⟨p7, c7, rfl⟩ := own_form HN9.out
  go_upto_region 18 with fail
  have hal : Below w9.heap.size w9 (((w9.alloc (.map #[] 0)).alloc (.map #[] 0)).alloc (.cells (fsA (.pointer (some ⟨D, 0, none⟩)) (.pointer (some ⟨L, 0, none⟩)) (.slice p7 32 c7) w9.heap.size (w9.heap.size + 1)) 150)) := (((Below.refl _ _).alloc (Nat.le_refl _) _).alloc (by simp) _).alloc (by simp; omega) _
  have HFS : Hid (FSy (((w9.alloc (.map #[] 0)).alloc (.map #[] 0)).alloc (.cells (fsA (.pointer (some ⟨D, 0, none⟩)) (.pointer (some ⟨L, 0, none⟩)) (.slice p7 32 c7) w9.heap.size (w9.heap.size + 1)) 150)) w.heap.size (w9.heap.size + 2) D L w9.heap.size) := Lib.hid (by
    have h0 := HB9.out.size
    have hF : (((w9.alloc (.map #[] 0)).alloc (.map #[] 0)).alloc (.cells (fsA (.pointer (some ⟨D, 0, none⟩)) (.pointer (some ⟨L, 0, none⟩)) (.slice p7 32 c7) w9.heap.size (w9.heap.size + 1)) 150)).heap[w9.heap.size + 2]? = some (.cells (fsA (.pointer (some ⟨D, 0, none⟩)) (.pointer (some ⟨L, 0, none⟩)) (.slice p7 32 c7) w9.heap.size (w9.heap.size + 1)) 150 (0, 0)) := by
      have := heap_alloc_new ((w9.alloc (.map #[] 0)).alloc (.map #[] 0)) (.cells (fsA (.pointer (some ⟨D, 0, none⟩)) (.pointer (some ⟨L, 0, none⟩)) (.slice p7 32 c7) w9.heap.size (w9.heap.size + 1)) 150)
      simpa using this
    refine ⟨?_, p7, c7, w9.heap.size + 1, hF, (owns_keep (owns_base HN9.out HZ6.out) hal : ON _ _ _ _), ?_, Row.lt (c := _) HL9.out, by omega, by omega, fun N e => (HN9.out.lt N e).2⟩
    rotate_left
    · rw [Below.heap_alloc _ _ _ (by simp)]
      have := heap_alloc_new (w9.alloc (.map #[] 0)) (.map #[] 0)
      simpa using this
    refine ⟨⟨p7, 32, c7, w9.heap.size + 1, ?_⟩, ?_, ?_, by omega, HL4.out, h0⟩
    · have := heap_alloc_new ((w9.alloc (.map #[] 0)).alloc (.map #[] 0)) (.cells (fsA (.pointer (some ⟨D, 0, none⟩)) (.pointer (some ⟨L, 0, none⟩)) (.slice p7 32 c7) w9.heap.size (w9.heap.size + 1)) 150)
      simpa using this
    · exact HL9.out.keep hal
    · rw [Below.heap_alloc _ _ _ (by simp; omega), Below.heap_alloc _ _ _ (by simp)]
      exact heap_alloc_new _ _)
  have HB10 := Lib.hid (HB9.out.trans (hal.mono HB9.out.size))
  have HN10 := Lib.hid (HN9.out.keep hal)
  clear hal HB9 HL9 HN9 l9
  generalize ((w9.alloc (.map #[] 0)).alloc (.map #[] 0)).alloc (.cells (fsA (.pointer (some ⟨D, 0, none⟩)) (.pointer (some ⟨L, 0, none⟩)) (.slice p7 32 c7) w9.heap.size (w9.heap.size + 1)) 150) = w10 at *
  have HLO := Lib.hid (lost_is HN10.out)
  go_upto_region 19 with (go_at_call 61; refine HLO.out.mono ?_; rintro e11 w11 ⟨rfl, hb11⟩)
  have HB11 := Lib.hid (HB10.out.trans (hb11.mono HB10.out.size))
  have HFS11 := Lib.hid (HFS.out.keep hb11)
  clear hb11 HLO HB10 HN10 HFS
  refine wp_loop_rounds 1 ?_
  rw [rounds_succ]
  go_wp2_with fail
  go_ret2
  exact ⟨_, _, _, rfl, HFS11.out, HB11.out⟩
end
end Go.Proofs.YtcdjkheelbikjaaGreatDoor
