/- The walks of package mount where nothing is mounted; path's walker: top, start. path's walker over FS: may. path's walker over FS: walk at no names and at "f". path's walker over FS: walk at "f" where it is. path.Walk and path.Last over FS at "f". -/
import Derived.Test.YtlfemcbfclallaaGreatDoorPathA
import Derived.Deep.CutBlock
import Derived.StillTailTactics
namespace Go.Proofs.YtlfemcbfclallaaGreatDoor
open Go.RowKit Go.Maps
set_option linter.unusedVariables false
set_option linter.unusedSimpArgs false
set_option maxRecDepth 100000 in
theorem mcheck_nil (w : World) : Calls Tryz.prog 236 #[.slice none 0 0] w fun e w' => e = .returned (.int .i64 0) ∧ w = w' := by
  go_enter Tryz.func236, Tryz.ntmps236
  go_wp2
  refine wp_loop_rounds 1 ?_
  rw [rounds_succ]
  go_wp2
  refine wp_loop_rounds 1 ?_
  rw [rounds_succ]
  go_wp2
  go_ret
  exact ⟨rfl, rfl⟩
def wkA (F : Nat) (U K : Int) (a : Option Addr) (cap : Nat) (sv : Value) : Array Value := #[.iface 63 (.pointer (some ⟨F, 0, none⟩)), .slice none 0 0, .int .i64 U, .int .i64 0, .slice a 0 cap, .int .i64 K, .int .i64 0, .int .i64 0, sv, .int .i64 0]
set_option maxRecDepth 100000 in
theorem ptop_is {w : World} {b F : Nat} {U K : Int} {a : Option Addr} {cap g cp : Nat} (h : Row w b 368 (wkA F U K a cap (.slice (some ⟨g, 0, none⟩) 1 cp))) (h3 : w.cell? ⟨g, 0, none⟩ = some (.int .i64 1)) (h1 : 1 ≤ cp) (h2 : cp ≤ maxLen) : Calls Tryz.prog 297 #[.pointer (some ⟨b, 0, none⟩)] w fun e w' => e = .returned (.int .i64 1) ∧ ∃ k, w' = w.drewN k := by
  have c8 : w.cell? ⟨b, 8, none⟩ = some (.slice (some ⟨g, 0, none⟩) 1 cp) := h.cell 8
  have hmx : (cp : Int) ≤ 9223372036854775807 := by unfold maxLen at h2; omega
  clear h h2
  go_enter Tryz.func297, Tryz.ntmps297
  go_wp2_with fail
  go_quiet (fail)
  go_wp2_with fail
  go_ret
  exact ⟨rfl, _, rfl⟩
theorem bd_wlk (ps : Array (Nat × Value)) : Instr.build 368 ps = bdR 368 ps := rfl
theorem bd_wlk_run (w : World) (F : Nat) (U K : Int) (a : Option Addr) (cap : Nat) (sp : Option Addr) (n cp : Nat) : (bdR 368 #[(0, .iface 63 (.pointer (some ⟨F, 0, none⟩))), (1, .slice none 0 0), (2, .agg (crA U K a cap)), (3, .slice sp n cp)]).run Tryz.prog w = .ok (.agg (wkA F U K a cap (.slice sp n cp))) w := by unfold crA wkA; kernel_rfl
section
attribute [local go_sem ↓] ld_crd bd_wlk
set_option maxRecDepth 100000 in
set_option maxHeartbeats 800000 in
theorem pstart_is (w : World) (F : Nat) {U K : Int} (hU : 0 ≤ U ∧ U ≤ 99) (hK : 0 ≤ K ∧ K ≤ 127) (a : Option Addr) (cap : Nat) (hc : cap ≤ maxLen) {gc cc : Nat} (h0 : w.cell? ⟨gc, 0, none⟩ = some (.int .i64 1)) (h1 : 1 ≤ cc) (h2 : cc ≤ maxLen) :
    Calls Tryz.prog 240 #[.iface 63 (.pointer (some ⟨F, 0, none⟩)), .slice none 0 0, .agg (crA U K a cap), .slice (some ⟨gc, 0, none⟩) 1 cc, .string ⟨#[102]⟩] w fun e w' => ∃ W sp cp gl cl, e = .returned (.tuple #[.pointer (some ⟨W, 0, none⟩), .slice (some ⟨gl, 0, none⟩) 1 cl, .int .i64 0]) ∧ w.heap.size ≤ W ∧ Row w' W 368 (wkA F U K a cap (.slice sp 1 cp)) ∧ w'.ownsRow w.heap.size 3 1 (.slice sp 1 cp) 1 [.int .i64 1] ∧ (Value.slice sp 1 cp).ownBlock ≠ some W ∧ gl ≠ W ∧ (∀ g, (Value.slice sp 1 cp).ownBlock = some g → gl < g) ∧ w.heap.size ≤ gl ∧ w'.cell? ⟨gl, 0, none⟩ = some (.string ⟨#[102]⟩) ∧ 1 ≤ cl ∧ cl ≤ maxLen ∧ Below w.heap.size w w' := by
  have hr := row_new w 55 (crA U K a cap)
  have l0 := hr.ld0 Tryz.underlying55 rfl (by unfold crA; kernel_rfl)
  have HR := Lib.hid hr
  have HB := Lib.hid (Go.Joins.below_alloc1 w (.cells (crA U K a cap) 55))
  have hlt : gc < w.heap.size := World.block_lt_of_cell? w _ h0
  have HCK := Lib.hid (fun wx => crchk_is wx hU hK a cap hc)
  have hsz : (w.alloc (.cells (crA U K a cap) 55)).heap.size = w.heap.size + 1 := by simp
  have hone : ∀ i, i < ([1] : List Int).length → w.cell? ⟨gc, 0 + i, none⟩ = some (Value.int .i64 (([1] : List Int).getD i 0)) := by
    intro i hi
    have : i = 0 := by simp only [List.length_cons, List.length_nil] at hi; omega
    subst this
    exact h0
  have hat : At (Value.int .i64) 0 w (.slice (some ⟨gc, 0, none⟩) 1 cc) [1] := ⟨_, _, rfl, h1, h2, .inr ⟨gc, 0, rfl, hlt, hone⟩⟩
  have HCL := Lib.hid (fun wx (hb : Below w.heap.size w wx) => cloneI_is (w := wx) (l := [1]) (by decide) (hat.keep hb))
  have HL := Lib.hid (fun wx (hb : Below (w.alloc (.cells (crA U K a cap) 55)).heap.size (w.alloc (.cells (crA U K a cap) 55)) wx) => (hr.keep hb).ld0 Tryz.underlying55 rfl (by unfold crA; kernel_rfl))
  have hbd := fun w a2 n c2 => bd_wlk_run w F U K a cap a2 n c2
  clear hr hat hone h0 h1 h2 hlt hU hK hc
  generalize crA U K a cap = A at *
  generalize hw0 : w.alloc (.cells A 55) = w0 at *
  go_enter Tryz.func240, Tryz.ntmps240
  go_upto_region 1 with fail
  have hsz : w.heap.size ≤ w0.heap.size := HB.out.size
  clear hw0
  go_upto_region 7 with (first | (go_at_call 236; refine (mcheck_nil _).mono ?_; rintro e1 w1 ⟨rfl, rfl⟩; have HCK0 := Lib.hid (HCK.out w0)) | (go_at_call 185; refine HCK0.out.mono ?_; rintro e2 w2 ⟨rfl, hb2⟩; have HB2 := Lib.hid hb2; clear hb2))
  have HSP := Lib.hid (psplit_is w2)
  go_upto_region 10 with (go_at_call 58; refine HSP.out.mono ?_; rintro e3 w3 ⟨gl, cl, rfl, hgl, hcl, q1, q2, hb3⟩)
  have hlgl : gl < w3.heap.size := World.block_lt_of_cell? w3 _ hcl
  have HG := Lib.hid (And.intro (Nat.le_trans hsz (Nat.le_trans HB2.out.size hgl)) (And.intro hcl (And.intro q1 (And.intro q2 hlgl))))
  have HB3 := Lib.hid (HB2.out.trans (hb3.mono HB2.out.size))
  clear hgl hcl q1 q2 hlgl hb3 l0
  have HK : Hid (∀ wx, Below w3.heap.size w3 wx → (ldR 55 (.pointer (some ⟨w.heap.size, 0, none⟩))).run Tryz.prog wx = .ok (.agg A) wx) := Lib.hid (fun wx hb => HL.out _ (HB3.out.trans (hb.mono HB3.out.size)))
  have HB4 := Lib.hid (HB.out.trans (HB3.out.mono HB.out.size))
  go_upto_region 12 with fail
  go_region_held3 (fun wx => (ldR 55 (.pointer (some ⟨w.heap.size, 0, none⟩))).run Tryz.prog wx = .ok (.agg A) wx) (first | (with_reducible exact HK.out _ (Below.refl _ _)) | (with_reducible exact HK.out _ (Below.refl _ _).drew) | (with_reducible exact HK.out _ HB5.out) | (with_reducible exact HK.out _ (HB5.out.alloc HB5.out.size _)) | fail) (first | (go_at_call 129; (with_reducible refine (HCL.out _ HB4.out.drew).mono ?_); rintro e4 w4 ⟨v4, rfl, ho4, hb4⟩; obtain ⟨pa, pc, rfl⟩ := own_form ho4; have HO := Lib.hid ho4; have HB5 := Lib.hid ((Below.refl w3.heap.size w3).drew.trans hb4); clear ho4 hb4) | fail)
  have HB6 := Lib.hid (Go.Joins.below_alloc1 w4 (.cells (wkA F U K a cap (.slice pa 1 pc)) 368))
  have HR6 := Lib.hid (row_new w4 368 (wkA F U K a cap (.slice pa 1 pc)))
  generalize w4.alloc (.cells (wkA F U K a cap (.slice pa 1 pc)) 368) = w6 at *
  generalize hZ : wkA F U K a cap (.slice pa 1 pc) = Z at HR6 ⊢
  have HZ := Lib.hid hZ
  clear hZ
  go_wp2_with fail
  go_ret3
  obtain ⟨g1, g2, g3, g4, g5⟩ := HG.out
  have hz5 : w3.heap.size ≤ w4.heap.size := HB5.out.size
  have hzb := HB4.out.size
  refine ⟨w4.heap.size, pa, pc, gl, cl, rfl, Nat.le_trans hzb hz5, (by rw [HZ.out]; exact HR6.out), owns_keep (owns_base HO.out hzb) HB6.out, fun e => by have := (HO.out.lt _ e).2; omega, fun e => by omega, fun g e => Nat.lt_of_lt_of_le g5 (HO.out.lt _ e).1, g1, ?_, g3, g4, HB4.out.trans ((HB5.out.trans (HB6.out.mono hz5)).mono hzb)⟩
  rw [← g2]
  exact (HB5.out.trans (HB6.out.mono hz5)).cell (p := ⟨gl, 0, none⟩) g5
end
end Go.Proofs.YtlfemcbfclallaaGreatDoor
namespace Go.Proofs.YtlfemcbfclallaaGreatDoor
open Go.RowKit Go.Maps
set_option linter.unusedVariables false
set_option linter.unusedSimpArgs false
theorem method_stat (v : Value) (w : World) : (method 620 63 v "Stat").run Tryz.prog w = .ok (160, v) w := by kernel_rfl
theorem method_look (v : Value) (w : World) : (method 620 63 v "Look").run Tryz.prog w = .ok (59, v) w := by kernel_rfl
theorem Row.stS {w : World} {b : Nat} (h : Row w b 32 (#[.int .i64 0, .int .i64 0, .int .i64 0, .int .i64 0, .int .i64 0, .int .i64 0] : Array Value)) (n : Nd) : (stR 32 (.pointer (some ⟨b, 0, none⟩)) (.agg (stA n))).run Tryz.prog w = .ok () (w.setRow b (stA n)) := h.st0 rfl (by kernel_rfl) (by simp [stA, Value.oneCell'])
theorem stS_new (w : World) (n : Nd) : (stR 32 (.pointer (some ⟨w.heap.size, 0, none⟩)) (.agg (stA n))).run Tryz.prog (w.alloc (.cells (#[.int .i64 0, .int .i64 0, .int .i64 0, .int .i64 0, .int .i64 0, .int .i64 0] : Array Value) 32)) = .ok () (w.alloc (.cells (stA n) 32)) := st0_new w rfl (by kernel_rfl) (by simp [stA, Value.oneCell'])
theorem below_drewN_alloc (w : World) (k : Nat) (o : Obj) : Below w.heap.size w ((w.drewN k).alloc o) := (below_drewN (Below.refl w.heap.size w) k).alloc (by have := (below_drewN (Below.refl w.heap.size w) k).size; exact Nat.le_refl _) o
theorem row_drewN (w : World) (k T : Nat) (c : Array Value) : Row ((w.drewN k).alloc (.cells c T)) w.heap.size T c := by
  have := row_new (w.drewN k) T c
  simpa using this
section
variable {w : World} {c : FC} {x : FM}
attribute [local go_sem ↓] ld_sta st_sta ld_crd
attribute [local go_sem] stS_new
set_option maxRecDepth 100000 in
set_option maxHeartbeats 800000 in
theorem pmay_is {b : Nat} {U K : Int} {a : Option Addr} {cap g cp : Nat} (h : FSt w c x) (hk : (x.nd 0).k = 2) (hw : Row w b 368 (wkA c.F U K a cap (.slice (some ⟨g, 0, none⟩) 1 cp))) (h3 : w.cell? ⟨g, 0, none⟩ = some (.int .i64 1)) (h1 : 1 ≤ cp) (h2 : cp ≤ maxLen)
    (hM : ∀ w, Calls Tryz.prog 169 #[.agg (stA (x.nd 0)), .agg (crA U K a cap), .int .i64 4] w fun e w' => e = .returned (.tuple #[.bool true, .int .i64 0]) ∧ Below w.heap.size w w') :
    Calls Tryz.prog 291 #[.pointer (some ⟨b, 0, none⟩)] w fun e w' => e = .returned (.int .i64 0) ∧ Below w.heap.size w w' := by
  have hg : g < w.heap.size := World.block_lt_of_cell? w _ h3
  have HTOP := Lib.hid (fun wx (hb : Below w.heap.size w wx) => ptop_is (hw.keep hb) ((hb.cell (p := ⟨g, 0, none⟩) hg).trans h3) h1 h2)
  have HST := Lib.hid (fun wx (hb : Below w.heap.size w wx) => statF_is (h.keep hb) (i := 0) (by decide) (n := 1) rfl (by rw [hk]; decide))
  have HM := Lib.hid hM
  have c0 : w.cell? ⟨b, 0, none⟩ = some (.iface 63 (.pointer (some ⟨c.F, 0, none⟩))) := hw.cell 0
  have hlt := hw.lt
  have HW := Lib.hid hw
  have hms := method_stat
  have hst0 : (stA (x.nd 0))[0]? = some (.int .i64 2) := by show some (Value.int .i64 (x.nd 0).k) = _; rw [hk]
  have HZ2 := Lib.hid (fun k => (row_new w 32 (#[.int .i64 0, .int .i64 0, .int .i64 0, .int .i64 0, .int .i64 0, .int .i64 0] : Array Value)).keep (below_drewN (Below.refl _ _) k))
  have HZC := Lib.hid (fun k => below_drewN (Go.Joins.below_alloc1 w (.cells (#[.int .i64 0, .int .i64 0, .int .i64 0, .int .i64 0, .int .i64 0, .int .i64 0] : Array Value) 32)) k)
  have HZ1 := Lib.hid (fun k => row_drewN w k 32 (#[.int .i64 0, .int .i64 0, .int .i64 0, .int .i64 0, .int .i64 0, .int .i64 0] : Array Value))
  have HZB := Lib.hid (fun k => below_drewN_alloc w k (.cells (#[.int .i64 0, .int .i64 0, .int .i64 0, .int .i64 0, .int .i64 0, .int .i64 0] : Array Value) 32))
  have HD0 := Lib.hid (show Below w.heap.size w w.drew from (Below.refl _ _).drew)
  have HD1 := Lib.hid (show Below w.heap.size w (w.alloc (.cells (#[.int .i64 0, .int .i64 0, .int .i64 0, .int .i64 0, .int .i64 0, .int .i64 0] : Array Value) 32)).drew from ((Below.refl _ _).alloc (Nat.le_refl _) _).drew)
  have HBO : Hid (∀ w', Below w.heap.size w w' → (Below w.heap.size w w' ∧ w'.cell? ⟨b, 0, none⟩ = some (.iface 63 (.pointer (some ⟨c.F, 0, none⟩))))) := Lib.hid (fun w' hb => ⟨hb, (hb.cell (p := ⟨b, 0, none⟩) hlt).trans c0⟩)
  have HSA := Lib.hid hst0
  clear h hw h3 h1 h2 hM hk hg hst0
  generalize hnd : x.nd 0 = nd at *
  clear hnd
  go_enter Tryz.func291, Tryz.ntmps291
  go_upto_region 1 with fail
  go_cut [3, 4] (fun s3 s4 wx => s4 = .int .i64 0 ∧ ∃ b9, s3 = .pointer (some ⟨b9, 0, none⟩) ∧ w.heap.size ≤ b9 ∧ Below w.heap.size w wx ∧ Row wx b9 32 (stA nd))
  case first =>
    go_region_held3 (fun w' => Below w.heap.size w w' ∧ w'.cell? ⟨b, 0, none⟩ = some (.iface 63 (.pointer (some ⟨c.F, 0, none⟩)))) (first | assumption | (with_reducible exact HBO.out _ HD0.out) | (with_reducible exact HBO.out _ (below_drewN (Below.refl _ _) _)) | (with_reducible exact HBO.out _ (below_drewN (Go.Joins.below_alloc1 _ _) _)) | (with_reducible exact HBO.out _ (below_drewN (And.left ‹_›) _)) | (with_reducible exact HBO.out _ HD1.out) | (with_reducible exact HBO.out _ (below_setRow (And.left ‹_›) (Nat.le_refl _) _)) | (with_reducible exact HBO.out _ (Below.alloc (And.left ‹_›) (Below.size (And.left ‹_›)) _)) | go_keep)
      (first | (go_at_call 297; refine (HTOP.out _ (‹Below w.heap.size w _ ∧ _›).1).mono ?_; rintro e9 w9 ⟨rfl, k9, rfl⟩; have hS := HBO.out _ (below_drewN (‹Below w.heap.size w _ ∧ _›).1 k9)) | (go_at_call 160; (with_reducible refine (HST.out ((w.alloc (.cells (#[.int .i64 0, .int .i64 0, .int .i64 0, .int .i64 0, .int .i64 0, .int .i64 0] : Array Value) 32)).drewN _) (HZC.out _)).mono ?_); rintro e9 w9 ⟨rfl, hb9⟩; have hst := ((HZ2.out _).keep hb9).stS nd; have hS := HBO.out _ ((HZC.out _).trans (hb9.mono (HZC.out _).size))) | (go_at_call 160; (with_reducible refine (HST.out ((w.drewN _).alloc (.cells (#[.int .i64 0, .int .i64 0, .int .i64 0, .int .i64 0, .int .i64 0, .int .i64 0] : Array Value) 32)) (HZB.out _)).mono ?_); rintro e9 w9 ⟨rfl, hb9⟩; have hst := ((HZ1.out _).keep hb9).stS nd; have hS := HBO.out _ ((HZB.out _).trans (hb9.mono (HZB.out _).size))) | (go_at_call 160; refine (HST.out _ (‹Below w.heap.size w _ ∧ _›).1).mono ?_; rintro e9 w9 ⟨rfl, hb9⟩; have hS := HBO.out _ ((‹Below w.heap.size w _ ∧ _›).1.trans (hb9.mono (‹Below w.heap.size w _ ∧ _›).1.size))))
    all_goals go_wp2
    all_goals go_meet
    all_goals first
      | exact ⟨rfl, _, rfl, hS.1.size, hS.1.alloc hS.1.size _, row_new _ _ _⟩
      | exact ⟨rfl, _, rfl, Nat.le_refl _, below_setRow hS.1 (Nat.le_refl _) _, ((HZ1.out _).keep hb9).setRow _⟩
      | exact ⟨rfl, _, rfl, Nat.le_refl _, below_setRow hS.1 (Nat.le_refl _) _, ((HZ2.out _).keep hb9).setRow _⟩
  case rest =>
    obtain ⟨rfl, b3, rfl, hbl, hbc, hr3⟩ := hcut
    have k0 : wc.cell? ⟨b3, 0, none⟩ = some (.int .i64 2) := (hr3.cell 0).trans HSA.out
    have hwk := HW.out.keep hbc
    have HBC := Lib.hid hbc
    have HL : Hid (∀ wx, Below wc.heap.size wc wx → ((ldR 32 (.pointer (some ⟨b3, 0, none⟩))).run Tryz.prog wx = .ok (.agg (stA nd)) wx ∧ (ldR 55 (.pointer (some ⟨b, 2, none⟩))).run Tryz.prog wx = .ok (.agg (crA U K a cap)) wx)) := Lib.hid (fun wx hb => ⟨(hr3.keep hb).ld0 Tryz.underlying32 rfl (by unfold stA; kernel_rfl), (hwk.keep hb).ld (o := 2) (n := 6) (by show 2 + 6 ≤ 10; decide) Tryz.underlying55 rfl (by kernel_rfl)⟩)
    clear hbl hbc hr3 hwk HTOP HST HZ1 HZ2 HZB HZC HD0 HD1 HBO c0
    go_upto_region 6 with fail
    go_region_held3 (fun wx => (ldR 32 (.pointer (some ⟨b3, 0, none⟩))).run Tryz.prog wx = .ok (.agg (stA nd)) wx ∧ (ldR 55 (.pointer (some ⟨b, 2, none⟩))).run Tryz.prog wx = .ok (.agg (crA U K a cap)) wx) (first | (with_reducible exact HL.out _ (Below.refl _ _)) | (with_reducible exact HL.out _ (Below.refl _ _).drew) | (with_reducible exact HL.out _ HB9.out) | fail)
          (first | (go_at_call 169; (with_reducible refine (HM.out _).mono ?_); rintro e9 w9 ⟨rfl, hb9⟩; have HB9 := Lib.hid ((Below.refl wc.heap.size wc).drew.trans hb9); clear hb9) | fail)
    go_wp2_with fail
    go_ret
    exact ⟨rfl, HBC.out.trans (HB9.out.mono HBC.out.size)⟩
end
end Go.Proofs.YtlfemcbfclallaaGreatDoor
namespace Go.Proofs.YtlfemcbfclallaaGreatDoor
open Go.RowKit Go.Maps
set_option linter.unusedVariables false
set_option linter.unusedSimpArgs false
theorem own1 {w : World} {B cp : Nat} {sp : Option Addr} {x : Int} (h : w.ownsRow B 3 1 (.slice sp 1 cp) 1 [.int .i64 x]) : ∃ g, sp = some ⟨g, 0, none⟩ ∧ B ≤ g ∧ g < w.heap.size ∧ 1 ≤ cp ∧ cp ≤ maxLen ∧ w.cell? ⟨g, 0, none⟩ = some (.int .i64 x) := by
  obtain ⟨g, rfl, h1, h2, h3, h4⟩ := own_block h (by decide)
  exact ⟨g, rfl, h1, h2, h3, h4, h.cells (g := g) rfl 0 (.int .i64 x) rfl⟩
section
variable {w : World} {c : FC} {x : FM}
set_option maxRecDepth 100000 in
theorem pwalk0_is (w : World) (b gl cl : Nat) (h2 : cl ≤ maxLen) : Calls Tryz.prog 241 #[.pointer (some ⟨b, 0, none⟩), .slice (some ⟨gl, 0, none⟩) 0 cl, .bool true] w fun e w' => e = .returned (.int .i64 0) ∧ w = w' := by
  go_enter Tryz.func241, Tryz.ntmps241
  go_wp2_with fail
  refine wp_loop_rounds 1 ?_
  rw [rounds_succ]
  go_wp2_with fail
  go_ret
  exact ⟨rfl, rfl⟩
set_option maxRecDepth 100000 in
set_option maxHeartbeats 800000 in
theorem pwalkN_is {b : Nat} {U K : Int} {a : Option Addr} {cap g cp : Nat} (h : FSt w c x) (hk : (x.nd 0).k = 2) (hp : (x.nd 0).ps = []) (hs : (x.nd 0).sz = 0) (hw : Row w b 368 (wkA c.F U K a cap (.slice (some ⟨g, 0, none⟩) 1 cp))) (h3 : w.cell? ⟨g, 0, none⟩ = some (.int .i64 1)) (h1 : 1 ≤ cp) (h2 : cp ≤ maxLen)
    (hM : ∀ w, Calls Tryz.prog 169 #[.agg (stA (x.nd 0)), .agg (crA U K a cap), .int .i64 4] w fun e w' => e = .returned (.tuple #[.bool true, .int .i64 0]) ∧ Below w.heap.size w w')
    {gl cl : Nat} (hgl : w.cell? ⟨gl, 0, none⟩ = some (.string ⟨#[102]⟩)) (k1 : 1 ≤ cl) (k2 : cl ≤ maxLen) :
    Calls Tryz.prog 241 #[.pointer (some ⟨b, 0, none⟩), .slice (some ⟨gl, 0, none⟩) 1 cl, .bool true] w fun e w' => e = .returned (.int .i64 4) ∧ Below w.heap.size w w' := by
  have hg : g < w.heap.size := World.block_lt_of_cell? w _ h3
  have HMAY := Lib.hid (pmay_is h hk hw h3 h1 h2 hM)
  have HTOP := Lib.hid (fun wx (hb : Below w.heap.size w wx) => ptop_is (hw.keep hb) ((hb.cell (p := ⟨g, 0, none⟩) hg).trans h3) h1 h2)
  have HLK := Lib.hid (fun wx (hb : Below w.heap.size w wx) => look0_is (h.keep hb) (i := 0) (by decide) (n := 1) rfl hk hp hs)
  have HC0 := Lib.hid (fun wx (hb : Below w.heap.size w wx) => (show wx.cell? ⟨b, 0, none⟩ = some (.iface 63 (.pointer (some ⟨c.F, 0, none⟩))) from (hw.keep hb).cell 0))
  have hms := method_look
  have hcm : (cl : Int) ≤ 9223372036854775807 := by unfold maxLen at k2; omega
  have hc1 : (1 : Int) ≤ (cl : Int) := by omega
  clear h hk hp hs hw h3 h1 h2 hM hg k2
  go_enter Tryz.func241, Tryz.ntmps241
  go_wp2_with fail
  refine wp_loop_rounds 1 ?_
  rw [rounds_succ]
  go_upto_region 12 with (go_at_call 291; (with_reducible refine HMAY.out.mono ?_); rintro e1 w1 ⟨rfl, hb1⟩)
  have HB1 := Lib.hid hb1
  generalize (if cl = 1 then (some ⟨gl, 0, none⟩ : Option Addr) else some ⟨gl, 1, none⟩) = al at *
  have a0 := HC0.out _ hb1
  have HBO : Hid (∀ wx, Below w1.heap.size w1 wx → (Below w1.heap.size w1 wx ∧ wx.cell? ⟨b, 0, none⟩ = some (.iface 63 (.pointer (some ⟨c.F, 0, none⟩))))) := Lib.hid (fun wx hb => ⟨hb, HC0.out _ (HB1.out.trans (hb.mono HB1.out.size))⟩)
  have HT1 : Hid (∀ wx, Below w1.heap.size w1 wx → Calls Tryz.prog 297 #[.pointer (some ⟨b, 0, none⟩)] wx fun e w' => e = .returned (.int .i64 1) ∧ ∃ k, w' = wx.drewN k) := Lib.hid (fun wx hb => HTOP.out _ (HB1.out.trans (hb.mono HB1.out.size)))
  have HL1 : Hid (∀ wx, Below w1.heap.size w1 wx → Calls Tryz.prog 59 #[.pointer (some ⟨c.F, 0, none⟩), .int .i64 1, .string ⟨#[102]⟩] wx fun e w' => e = .returned (.tuple #[.int .i64 0, .int .i64 4]) ∧ Below wx.heap.size wx w') := Lib.hid (fun wx hb => HLK.out _ (HB1.out.trans (hb.mono HB1.out.size)))
  clear hb1 HMAY HTOP HLK HC0
  go_region_held3 (fun wx => wx.cell? ⟨b, 0, none⟩ = some (.iface 63 (.pointer (some ⟨c.F, 0, none⟩)))) (first | (with_reducible exact (HBO.out _ (Below.refl _ _)).2) | (with_reducible exact (HBO.out _ (Below.refl _ _).drew).2) | (with_reducible exact (HBO.out _ (below_drewN (Below.refl _ _) _)).2) | (with_reducible exact (HBO.out _ HB2.out).2) | fail)
      (first | (go_at_call 297; (with_reducible refine (HT1.out _ (Below.refl _ _).drew).mono ?_); rintro e9 w9 ⟨rfl, k9, rfl⟩) | (go_at_call 59; (with_reducible refine (HL1.out _ (below_drewN (Below.refl _ _) _)).mono ?_); rintro e2 w2 ⟨rfl, hb2⟩; have HB2 := Lib.hid ((below_drewN (Below.refl w1.heap.size w1) _).trans hb2); clear hb2))
  go_wp2_with fail
  go_ret
  exact ⟨rfl, HB1.out.trans (HB2.out.mono HB1.out.size)⟩
end
end Go.Proofs.YtlfemcbfclallaaGreatDoor

namespace Go.Proofs.YtlfemcbfclallaaGreatDoor
open Go.RowKit Go.Maps
set_option linter.unusedVariables false
set_option linter.unusedSimpArgs false
section
variable {w : World} {c : FC} {x : FM}
attribute [local go_sem ↓] ld_crd
set_option maxRecDepth 100000 in
set_option maxHeartbeats 800000 in
theorem pWalkN_is {U K : Int} {a : Option Addr} {cap gc cc : Nat} (h : FSt w c x) (hk : (x.nd 0).k = 2) (hp : (x.nd 0).ps = []) (hs : (x.nd 0).sz = 0) (hU : 0 ≤ U ∧ U ≤ 99) (hK : 0 ≤ K ∧ K ≤ 127) (hc : cap ≤ maxLen) (h0 : w.cell? ⟨gc, 0, none⟩ = some (.int .i64 1)) (h1 : 1 ≤ cc) (h2 : cc ≤ maxLen)
    (hM : ∀ w, Calls Tryz.prog 169 #[.agg (stA (x.nd 0)), .agg (crA U K a cap), .int .i64 4] w fun e w' => e = .returned (.tuple #[.bool true, .int .i64 0]) ∧ Below w.heap.size w w') :
    Calls Tryz.prog 168 #[.iface 63 (.pointer (some ⟨c.F, 0, none⟩)), .slice none 0 0, .agg (crA U K a cap), .slice (some ⟨gc, 0, none⟩) 1 cc, .string ⟨#[102]⟩, .bool true] w fun e w' => e = .returned (.tuple #[.slice none 0 0, .int .i64 4]) ∧ Below w.heap.size w w' := by
  have hr := row_new w 55 (crA U K a cap)
  have l0 := hr.ld0 Tryz.underlying55 rfl (by unfold crA; kernel_rfl)
  have hal := Go.Joins.below_alloc1 w (.cells (crA U K a cap) 55)
  have hlt : gc < w.heap.size := World.block_lt_of_cell? w _ h0
  have HS := Lib.hid (pstart_is (w.alloc (.cells (crA U K a cap) 55)) c.F hU hK a cap hc ((hal.cell (p := ⟨gc, 0, none⟩) hlt).trans h0) h1 h2)
  have h' := h.keep hal
  have HW : Hid (∀ w1 W sp cp gl cl, Below (w.alloc (.cells (crA U K a cap) 55)).heap.size (w.alloc (.cells (crA U K a cap) 55)) w1 → Row w1 W 368 (wkA c.F U K a cap (.slice sp 1 cp)) → w1.ownsRow (w.alloc (.cells (crA U K a cap) 55)).heap.size 3 1 (.slice sp 1 cp) 1 [.int .i64 1] → w1.cell? ⟨gl, 0, none⟩ = some (.string ⟨#[102]⟩) → 1 ≤ cl → cl ≤ maxLen → Calls Tryz.prog 241 #[.pointer (some ⟨W, 0, none⟩), .slice (some ⟨gl, 0, none⟩) 1 cl, .bool true] w1 fun e w' => e = .returned (.int .i64 4) ∧ Below w1.heap.size w1 w') := Lib.hid (fun w1 W sp cp gl cl hb hw ho hgl k1 k2 => by
    obtain ⟨g, rfl, hgB, hg, q1, q2, q3⟩ := own1 ho
    exact pwalkN_is (h'.keep hb) hk hp hs hw q3 q1 q2 hM hgl k1 k2)
  have HB := Lib.hid hal
  clear hr hal hlt h h' hk hp hs hU hK hc h0 h1 h2 hM
  generalize crA U K a cap = A at *
  generalize hw0 : w.alloc (.cells A 55) = w0 at *
  go_enter Tryz.func168, Tryz.ntmps168
  go_upto_region 4 with (go_at_call 240; (with_reducible refine HS.out.mono ?_); rintro e1 w1 ⟨W, sp, cp, gl, cl, rfl, hW, hrw, how, hn, hn2, hn3, hn4, hgl, k1, k2, hb1⟩)
  have HW1 := Lib.hid (HW.out w1 W sp cp gl cl hb1 hrw how hgl k1 k2)
  have HB1 := Lib.hid (HB.out.trans (hb1.mono HB.out.size))
  clear hW hrw how hn hn2 hn3 hn4 hgl k1 k2 hb1
  go_wp2_with (go_at_call 241; (with_reducible refine HW1.out.mono ?_); rintro e2 w2 ⟨rfl, hb2⟩)
  go_ret2
  exact ⟨rfl, HB1.out.trans (hb2.mono HB1.out.size)⟩
set_option maxRecDepth 100000 in
set_option maxHeartbeats 800000 in
theorem pLast_is {U K : Int} {a : Option Addr} {cap gc cc : Nat} (h : FSt w c x) (hk : (x.nd 0).k = 2) (hU : 0 ≤ U ∧ U ≤ 99) (hK : 0 ≤ K ∧ K ≤ 127) (hc : cap ≤ maxLen) (h0 : w.cell? ⟨gc, 0, none⟩ = some (.int .i64 1)) (h1 : 1 ≤ cc) (h2 : cc ≤ maxLen)
    (hM : ∀ w, Calls Tryz.prog 169 #[.agg (stA (x.nd 0)), .agg (crA U K a cap), .int .i64 4] w fun e w' => e = .returned (.tuple #[.bool true, .int .i64 0]) ∧ Below w.heap.size w w') :
    Calls Tryz.prog 232 #[.iface 63 (.pointer (some ⟨c.F, 0, none⟩)), .slice none 0 0, .agg (crA U K a cap), .slice (some ⟨gc, 0, none⟩) 1 cc, .string ⟨#[102]⟩] w fun e w' => ∃ g cg, e = .returned (.tuple #[.slice (some ⟨g, 0, none⟩) 1 cg, .string ⟨#[102]⟩, .int .i64 0]) ∧ w'.cell? ⟨g, 0, none⟩ = some (.int .i64 1) ∧ 1 ≤ cg ∧ cg ≤ maxLen ∧ Below w.heap.size w w' := by
  have hr := row_new w 55 (crA U K a cap)
  have l0 := hr.ld0 Tryz.underlying55 rfl (by unfold crA; kernel_rfl)
  have hal := Go.Joins.below_alloc1 w (.cells (crA U K a cap) 55)
  have hlt : gc < w.heap.size := World.block_lt_of_cell? w _ h0
  have HS := Lib.hid (pstart_is (w.alloc (.cells (crA U K a cap) 55)) c.F hU hK a cap hc ((hal.cell (p := ⟨gc, 0, none⟩) hlt).trans h0) h1 h2)
  have h' := h.keep hal
  have HM : Hid (∀ w1 W sp cp, Below (w.alloc (.cells (crA U K a cap) 55)).heap.size (w.alloc (.cells (crA U K a cap) 55)) w1 → Row w1 W 368 (wkA c.F U K a cap (.slice sp 1 cp)) → w1.ownsRow (w.alloc (.cells (crA U K a cap) 55)).heap.size 3 1 (.slice sp 1 cp) 1 [.int .i64 1] → Calls Tryz.prog 291 #[.pointer (some ⟨W, 0, none⟩)] w1 fun e w' => e = .returned (.int .i64 0) ∧ Below w1.heap.size w1 w') := Lib.hid (fun w1 W sp cp hb hw ho => by
    obtain ⟨g, rfl, hgB, hg, q1, q2, q3⟩ := own1 ho
    exact pmay_is (h'.keep hb) hk hw q3 q1 q2 hM)
  have HB := Lib.hid hal
  clear hr hal hlt h h' hk hU hK hc h0 h1 h2 hM
  generalize crA U K a cap = A at *
  generalize hw0 : w.alloc (.cells A 55) = w0 at *
  go_enter Tryz.func232, Tryz.ntmps232
  go_upto_region 2 with (go_at_call 240; (with_reducible refine HS.out.mono ?_); rintro e1 w1 ⟨W, sp, cp, gl, cl, rfl, hW, hrw, how, hn, hn2, hn3, hn4, hgl, k1, k2, hb1⟩)
  have HM1 := Lib.hid (HM.out w1 W sp cp hb1 hrw how)
  have HB1 := Lib.hid (HB.out.trans (hb1.mono HB.out.size))
  have HR1 := Lib.hid (And.intro hrw how)
  have hlgl : gl < w1.heap.size := World.block_lt_of_cell? w1 _ hgl
  have hlm : (cl : Int) ≤ 9223372036854775807 := by unfold maxLen at k2; omega
  have HP := Lib.hid (pwalk0_is w1 W gl cl k2)
  clear hW hrw how hn hn2 hn3 hn4 hb1 k2
  go_upto_region 12 with (first | (go_at_call 241; (with_reducible refine HP.out.mono ?_); rintro e2 w2 ⟨rfl, rfl⟩) | (go_at_call 291; (with_reducible refine HM1.out.mono ?_); rintro e3 w3 ⟨rfl, hb3⟩))
  have HB3 := Lib.hid hb3
  have HL : Hid (∀ wx, Below w1.heap.size w1 wx → (wx.cell? ⟨W, 8, none⟩ = some (.slice sp 1 cp) ∧ wx.cell? ⟨gl, 0, none⟩ = some (.string ⟨#[102]⟩))) := Lib.hid (fun wx hb => ⟨(HR1.out.1.keep hb).cell 8, (hb.cell (p := ⟨gl, 0, none⟩) hlgl).trans hgl⟩)
  have HCL : Hid (∀ wx, Below w1.heap.size w1 wx → Calls Tryz.prog 129 #[.slice sp 1 cp] wx (CloneI [1] wx)) := Lib.hid (fun wx hb => cloneI_is (l := [1]) (by decide) (at_of_owned (d := 0) (f := i64V) (xs := [1]) (owns_keep HR1.out.2 hb)))
  clear hb3 hgl hlgl HM1 HP
  have yw : IntKind.i64.wrap 0 = 0 := by decide
  go_region_held3 (fun wx => wx.cell? ⟨W, 8, none⟩ = some (.slice sp 1 cp) ∧ wx.cell? ⟨gl, 0, none⟩ = some (.string ⟨#[102]⟩)) (first | (with_reducible exact HL.out _ HB3.out) | (with_reducible exact HL.out _ HB3.out.drew) | (with_reducible exact HL.out _ HB4.out) | fail) (first | (go_at_call 129; (with_reducible refine (HCL.out _ HB3.out.drew).mono ?_); rintro e4 w4 ⟨v4, rfl, ho4, hb4⟩; obtain ⟨pa, pc, rfl⟩ := own_form ho4; have HO := Lib.hid ho4; have HB4 := Lib.hid (HB3.out.drew.trans (hb4.mono HB3.out.drew.size)); clear ho4 hb4) | fail)
  all_goals
    obtain ⟨g3, rfl, q1, q2, q3, q4⟩ := own_block HO.out (by decide)
    go_wp2_with fail
    go_ret3
    exact ⟨g3, pc, rfl, HO.out.cells (g := g3) rfl 0 (.int .i64 1) rfl, q3, q4, HB1.out.trans (HB4.out.mono HB1.out.size)⟩
end
end Go.Proofs.YtlfemcbfclallaaGreatDoor
