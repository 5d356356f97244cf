/- The walks of package path: Split at "f". The walks of package mount where nothing is mounted; path's walker: top, start. path's walker over FS: may. path's walker over FS: walk at no names and at "f". -/
import Derived.Test.YtcdjkheelbikjaaGreatDoorCredN
import Derived.Deep.CutBlock
import Derived.StillTailTactics
namespace Go.Proofs.YtcdjkheelbikjaaGreatDoor
open Go.RowKit Go.Maps
set_option linter.unusedVariables false
set_option linter.unusedSimpArgs false
set_option maxRecDepth 100000 in
set_option maxHeartbeats 400000 in
theorem count1_is (w : World) (s : ByteArray) : Calls Tryz.prog 271 #[.string s, .string ⟨#[47]⟩] w fun e w' => e = .returned (.int .i64 (Lib.countByte s.data.toList 47)) ∧ w = w' := by
  have hi : (Instr.index 9 (.string ⟨#[47]⟩) (.int .i64 0)).run Tryz.prog w = .ok (.int .u8 47) w := by kernel_rfl
  go_enter Tryz.func271, Tryz.ntmps271
  go_wp2
  rw [run_callFunc_extern Tryz.func319 (by kernel_rfl) (by kernel_rfl) (by kernel_rfl) (e := Extern.BytealgCount.count) (by kernel_rfl), Lib.run_countString]
  simp only [Result.andThen]
  rw [Oper.upon_value]
  go_wp2
  go_ret
  exact ⟨rfl, rfl⟩
def mkS (a b : Value) : Sem Value := Instr.makeSlice 155 a b
theorem mkS_eq (a b : Value) : Instr.makeSlice 155 a b = mkS a b := rfl
theorem mkS1 (w : World) : (mkS (.int .i64 1) (.int .i64 1)).run Tryz.prog w = .ok (.slice (some ⟨w.heap.size, 0, none⟩) 1 1) (w.alloc (.cells #[.string ⟨#[]⟩] 9)) := by kernel_rfl
section
attribute [local go_sem ↓] mkS_eq
set_option maxRecDepth 100000 in
set_option maxHeartbeats 800000 in
theorem gsplit_is (w : World) : Calls Tryz.prog 208 #[.string ⟨#[102]⟩, .string ⟨#[47]⟩, .int .i64 0, .int .i64 (-1)] w fun e w' => ∃ g, e = .returned (.slice (some ⟨g, 0, none⟩) 1 1) ∧ w.heap.size ≤ g ∧ Row w' g 9 #[.string ⟨#[102]⟩] ∧ Below w.heap.size w w' := by
  have HC := Lib.hid (count1_is w ⟨#[102]⟩)
  have e0 : Lib.countByte (⟨#[102]⟩ : ByteArray).data.toList 47 = 0 := by decide
  rw [e0] at HC
  have hm := mkS1 w
  have hr := row_new w 9 #[.string ⟨#[]⟩]
  have y0 := hr.cell 0
  have z0 := hr.fz 0
  have HR := Lib.hid hr
  have HB := Lib.hid (Go.Joins.below_alloc1 w (.cells #[.string ⟨#[]⟩] 9))
  clear hr
  go_enter Tryz.func208, Tryz.ntmps208
  go_upto_region 8 with (go_at_call 271; (with_reducible refine HC.out.mono ?_); rintro e1 w1 ⟨rfl, rfl⟩)
  go_upto_region 9 with fail
  generalize w.alloc (.cells #[.string ⟨#[]⟩] 9) = w2 at *
  obtain ⟨z, hz⟩ : ∃ z, z = w.heap.size := ⟨_, rfl⟩
  rw [← hz] at y0 z0 HR ⊢
  have HZ := Lib.hid hz
  clear hz hm
  go_wp2_with fail
  refine wp_loop_rounds 1 ?_
  rw [rounds_succ]
  go_wp2_with fail
  go_ret
  refine ⟨z, rfl, Nat.le_of_eq HZ.out.symm, ?_, HB.out.trans ((Upd.set (S := fun j => j = z) w2 (b := z) (i := 0) (.string ⟨#[102]⟩) rfl).toBelow HB.out.size (fun k hk e => by have e : k = z := e; have := HZ.out; omega))⟩
  rw [HR.out.setCell]
  exact HR.out.setRow _
end
def apS := Builtin.append_ #[155, 155] 155
theorem apS_eq : Builtin.append_ #[155, 155] 155 = apS := rfl
theorem infoS : (Tryz.prog.info? 9).map (fun i => (i.zero, i.size, i.bytes)) = some (some (.string ⟨#[]⟩), 1, 16) := by kernel_rfl
theorem pushS (w : World) (s : ByteArray) : ∃ g c w', (apS #[.slice none 0 0, .slice (some ⟨w.heap.size, 0, none⟩) 1 1]).run Tryz.prog (w.alloc (.cells #[.string s] 9)) = .ok (.slice (some ⟨g, 0, none⟩) 1 c) w' ∧ w.heap.size ≤ g ∧ w'.cell? ⟨g, 0, none⟩ = some (.string s) ∧ 1 ≤ c ∧ c ≤ maxLen ∧ Below w.heap.size w w' := by
  have hal := Go.Joins.below_alloc1 w (.cells #[.string s] 9)
  obtain ⟨i0, hi, hz0, hz1, hz2⟩ := info_parts infoS
  obtain ⟨v', w', hr, ho, hg, -⟩ := run_append_fresh (P := Tryz.prog) (w.alloc (.cells #[.string s] 9)) w.heap.size 155 155 9 i0 _ 1 16 Tryz.underlying155 hi hz0 hz1 hz2 rfl (by decide) (.slice none 0 0) 0 [] (World.ownsRow_nil _ _ _ _) ⟨w.heap.size, 0, none⟩ 1 1 [.string s] rfl (cells1_new w (.string s) 9) (by intro u hu; simp at hu; rw [hu]; rfl) (by unfold maxLen; omega) (by omega) hal.size
  have ho : w'.ownsRow w.heap.size 9 1 v' 1 [.string s] := ho
  rcases ho.2 with ⟨_, h0⟩ | ⟨g, cap, cur, rfl, hB, hgg, h1, h2, h3, h4⟩
  · omega
  · have hrow : Row w' g 9 cur := hgg
    refine ⟨g, cap, w', hr, hB, ?_, h1, h2, hal.trans ((Below.refl _ _).grown hg hal.size (fun g hgg => by simp [Value.ownBlock] at hgg))⟩
    rw [hrow.cell]
    have : (cur.toList.take (1 * 1))[0]? = some (.string s) := by rw [h4]; rfl
    rw [List.getElem?_take, if_pos (by decide), Array.getElem?_toList] at this
    exact this
section
attribute [local go_sem ↓] apS_eq
set_option maxRecDepth 100000 in
set_option maxHeartbeats 800000 in
theorem ssplit_is (w : World) : Calls Tryz.prog 130 #[.string ⟨#[102]⟩, .string ⟨#[47]⟩] w fun e w' => ∃ g, e = .returned (.slice (some ⟨g, 0, none⟩) 1 1) ∧ w.heap.size ≤ g ∧ Row w' g 9 #[.string ⟨#[102]⟩] ∧ Below w.heap.size w w' := by
  have HG := Lib.hid (gsplit_is w)
  go_enter Tryz.func130, Tryz.ntmps130
  go_wp2_with (go_at_call 208; (with_reducible refine HG.out.mono ?_); rintro e1 w1 ⟨g, rfl, h⟩)
  go_ret
  exact ⟨g, rfl, h⟩
set_option maxRecDepth 100000 in
set_option maxHeartbeats 800000 in
theorem psplit_is (w : World) : Calls Tryz.prog 65 #[.string ⟨#[102]⟩] w fun e w' => ∃ g c, e = .returned (.tuple #[.bool false, .slice (some ⟨g, 0, none⟩) 1 c, .int .i64 0]) ∧ w.heap.size ≤ g ∧ w'.cell? ⟨g, 0, none⟩ = some (.string ⟨#[102]⟩) ∧ 1 ≤ c ∧ c ≤ maxLen ∧ Below w.heap.size w w' := by
  have HG := Lib.hid (ssplit_is w)
  have hi : ∀ w, (Instr.index 9 (.string ⟨#[102]⟩) (.int .i64 0)).run Tryz.prog w = .ok (.int .u8 102) w := fun w => by kernel_rfl
  go_enter Tryz.func65, Tryz.ntmps65
  go_wp2_with (go_at_call 130; (with_reducible refine HG.out.mono ?_); rintro e1 w1 ⟨g, rfl, hg, hr, hb1⟩; have y0 := hr.cell 0; have HB1 := Lib.hid hb1; clear hr hb1 hg)
  refine wp_loop_rounds 2 ?_
  rw [rounds_succ]
  obtain ⟨g2, c2, w2, hap, hg2, hc2, h1, h2, hb2⟩ := pushS w1 ⟨#[102]⟩
  have hcm : (c2 : Int) ≤ 9223372036854775807 := by unfold maxLen at h2; omega
  have HF := Lib.hid (And.intro (Nat.le_trans HB1.out.size hg2) (And.intro hc2 (And.intro h1 (And.intro h2 (HB1.out.trans (hb2.mono HB1.out.size))))))
  clear hg2 hc2 h1 h2 hb2
  go_wp2_with fail
  rw [rounds_succ]
  have hi2 := hi w2
  go_wp2_with fail
  first | go_ret3 | go_ret
  exact ⟨g2, c2, rfl, HF.out⟩
end
end Go.Proofs.YtcdjkheelbikjaaGreatDoor
namespace Go.Proofs.YtcdjkheelbikjaaGreatDoor
open Go.RowKit Go.Maps
set_option linter.unusedVariables false
set_option linter.unusedSimpArgs false
set_option maxRecDepth 100000 in
theorem mcheck_nil (w : World) : Calls Tryz.prog 242 #[.slice none 0 0] w fun e w' => e = .returned (.int .i64 0) ∧ w = w' := by
  go_enter Tryz.func242, Tryz.ntmps242
  go_wp2
  refine wp_loop_rounds 1 ?_
  rw [rounds_succ]
  go_wp2
  refine wp_loop_rounds 1 ?_
  rw [rounds_succ]
  go_wp2
  go_ret
  exact ⟨rfl, rfl⟩
set_option maxRecDepth 100000 in
theorem minode_is (n : Int) (h1 : 1 ≤ n) (h2 : n ≤ 32) (w : World) : Calls Tryz.prog 299 #[.int .i64 n] w fun e w' => e = .returned (.bool true) ∧ w = w' := by
  go_enter Tryz.func299, Tryz.ntmps299
  go_wp2
  go_ret
  exact ⟨rfl, rfl⟩
set_option maxRecDepth 100000 in
theorem mindexf_nil (f : Value) (w : World) : Calls Tryz.prog 301 #[.slice none 0 0, f] w fun e w' => e = .returned (.int .i64 (-1)) ∧ w = w' := by
  go_enter Tryz.func301, Tryz.ntmps301
  go_wp2_with fail
  refine wp_loop_rounds 1 ?_
  rw [rounds_succ]
  go_wp2
  go_ret
  exact ⟨rfl, rfl⟩
set_option maxRecDepth 100000 in
theorem mfind_nil (n : Int) (w : World) : Calls Tryz.prog 243 #[.slice none 0 0, .int .i64 n] w fun e w' => e = .returned (.int .i64 (-1)) ∧ Below w.heap.size w w' := by
  go_enter Tryz.func243, Tryz.ntmps243
  go_wp2_with fail
  refine (mindexf_nil _ _).mono ?_
  rintro e w1 ⟨rfl, rfl⟩
  go_wp2
  go_ret
  exact ⟨rfl, Go.Joins.below_alloc1 _ _⟩
set_option maxRecDepth 100000 in
theorem mdown_nil (n : Int) (w : World) : Calls Tryz.prog 300 #[.slice none 0 0, .int .i64 n] w fun e w' => e = .returned (.tuple #[.int .i64 n, .bool true]) ∧ Below w.heap.size w w' := by
  go_enter Tryz.func300, Tryz.ntmps300
  go_wp2_with fail
  refine wp_loop_rounds 2 ?_
  rw [rounds_succ]
  go_wp2_with fail
  refine (mfind_nil _ _).mono ?_
  rintro e w1 ⟨rfl, hb1⟩
  go_wp2
  go_ret2
  exact ⟨rfl, hb1⟩
set_option maxRecDepth 100000 in
theorem mdowns_is (n : Int) (h1 : 1 ≤ n) (h2 : n ≤ 32) (w : World) : Calls Tryz.prog 305 #[.slice none 0 0, .int .i64 n] w fun e w' => e = .returned (.tuple #[.int .i64 n, .int .i64 0]) ∧ Below w.heap.size w w' := by
  have HI := Lib.hid (minode_is n h1 h2 w)
  clear h1 h2
  go_enter Tryz.func305, Tryz.ntmps305
  go_wp2_with (first | (go_at_call 242; refine (mcheck_nil _).mono ?_; rintro e w1 ⟨rfl, rfl⟩) | (go_at_call 299; refine HI.out.mono ?_; rintro e w1 ⟨rfl, rfl⟩) | (go_at_call 300; refine (mdown_nil _ _).mono ?_; rintro e w1 ⟨rfl, hb1⟩))
  go_ret2
  exact ⟨rfl, hb1⟩
/-- a walker of one's own -/
def wkA (F : Nat) (U K : Int) (a : Option Addr) (cap : Nat) (sv : Value) : Array Value := #[.iface 71 (.pointer (some ⟨F, 0, none⟩)), .slice none 0 0, .int .i64 U, .int .i64 0, .slice a 0 cap, .int .i64 K, .int .i64 0, .int .i64 0, sv, .int .i64 0]
set_option maxRecDepth 100000 in
theorem ptop_is {w : World} {b F : Nat} {U K : Int} {a : Option Addr} {cap g cp : Nat} (h : Row w b 375 (wkA F U K a cap (.slice (some ⟨g, 0, none⟩) 1 cp))) (h3 : w.cell? ⟨g, 0, none⟩ = some (.int .i64 1)) (h1 : 1 ≤ cp) (h2 : cp ≤ maxLen) : Calls Tryz.prog 303 #[.pointer (some ⟨b, 0, none⟩)] w fun e w' => e = .returned (.int .i64 1) ∧ ∃ k, w' = w.drewN k := by
  have c8 : w.cell? ⟨b, 8, none⟩ = some (.slice (some ⟨g, 0, none⟩) 1 cp) := h.cell 8
  have hmx : (cp : Int) ≤ 9223372036854775807 := by unfold maxLen at h2; omega
  clear h h2
  go_enter Tryz.func303, Tryz.ntmps303
  go_wp2_with fail
  go_quiet (fail)
  go_wp2_with fail
  go_ret
  exact ⟨rfl, _, rfl⟩
theorem bd_wlk (ps : Array (Nat × Value)) : Instr.build 375 ps = bdR 375 ps := rfl
theorem bd_wlk_run (w : World) (F : Nat) (U K : Int) (a : Option Addr) (cap : Nat) (sp : Option Addr) (n cp : Nat) : (bdR 375 #[(0, .iface 71 (.pointer (some ⟨F, 0, none⟩))), (1, .slice none 0 0), (2, .agg (crA U K a cap)), (3, .slice sp n cp)]).run Tryz.prog w = .ok (.agg (wkA F U K a cap (.slice sp n cp))) w := by unfold crA wkA; kernel_rfl
section
attribute [local go_sem ↓] ld_crd bd_wlk
set_option maxRecDepth 100000 in
set_option maxHeartbeats 800000 in
theorem pstart_is (w : World) (F : Nat) {U K : Int} (hU : 0 ≤ U ∧ U ≤ 99) (hK : 0 ≤ K ∧ K ≤ 127) (a : Option Addr) (cap : Nat) (hc : cap ≤ maxLen) {gc cc : Nat} (h0 : w.cell? ⟨gc, 0, none⟩ = some (.int .i64 1)) (h1 : 1 ≤ cc) (h2 : cc ≤ maxLen) :
    Calls Tryz.prog 246 #[.iface 71 (.pointer (some ⟨F, 0, none⟩)), .slice none 0 0, .agg (crA U K a cap), .slice (some ⟨gc, 0, none⟩) 1 cc, .string ⟨#[102]⟩] w fun e w' => ∃ W sp cp gl cl, e = .returned (.tuple #[.pointer (some ⟨W, 0, none⟩), .slice (some ⟨gl, 0, none⟩) 1 cl, .int .i64 0]) ∧ w.heap.size ≤ W ∧ Row w' W 375 (wkA F U K a cap (.slice sp 1 cp)) ∧ w'.ownsRow w.heap.size 3 1 (.slice sp 1 cp) 1 [.int .i64 1] ∧ (Value.slice sp 1 cp).ownBlock ≠ some W ∧ gl ≠ W ∧ (∀ g, (Value.slice sp 1 cp).ownBlock = some g → gl < g) ∧ w.heap.size ≤ gl ∧ w'.cell? ⟨gl, 0, none⟩ = some (.string ⟨#[102]⟩) ∧ 1 ≤ cl ∧ cl ≤ maxLen ∧ Below w.heap.size w w' := by
  have hr := row_new w 63 (crA U K a cap)
  have l0 := hr.ld0 Tryz.underlying63 rfl (by unfold crA; kernel_rfl)
  have HR := Lib.hid hr
  have HB := Lib.hid (Go.Joins.below_alloc1 w (.cells (crA U K a cap) 63))
  have hlt : gc < w.heap.size := World.block_lt_of_cell? w _ h0
  have HCK := Lib.hid (fun wx => crchk_is wx hU hK a cap hc)
  have hsz : (w.alloc (.cells (crA U K a cap) 63)).heap.size = w.heap.size + 1 := by simp
  have hone : ∀ i, i < ([1] : List Int).length → w.cell? ⟨gc, 0 + i, none⟩ = some (Value.int .i64 (([1] : List Int).getD i 0)) := by
    intro i hi
    have : i = 0 := by simp only [List.length_cons, List.length_nil] at hi; omega
    subst this
    exact h0
  have hat : At (Value.int .i64) 0 w (.slice (some ⟨gc, 0, none⟩) 1 cc) [1] := ⟨_, _, rfl, h1, h2, .inr ⟨gc, 0, rfl, hlt, hone⟩⟩
  have HCL := Lib.hid (fun wx (hb : Below w.heap.size w wx) => cloneI_is (w := wx) (l := [1]) (by decide) (hat.keep hb))
  have HL := Lib.hid (fun wx (hb : Below (w.alloc (.cells (crA U K a cap) 63)).heap.size (w.alloc (.cells (crA U K a cap) 63)) wx) => (hr.keep hb).ld0 Tryz.underlying63 rfl (by unfold crA; kernel_rfl))
  have hbd := fun w a2 n c2 => bd_wlk_run w F U K a cap a2 n c2
  clear hr hat hone h0 h1 h2 hlt hU hK hc
  generalize crA U K a cap = A at *
  generalize hw0 : w.alloc (.cells A 63) = w0 at *
  go_enter Tryz.func246, Tryz.ntmps246
  go_upto_region 1 with fail
  have hsz : w.heap.size ≤ w0.heap.size := HB.out.size
  clear hw0
  go_upto_region 7 with (first | (go_at_call 242; refine (mcheck_nil _).mono ?_; rintro e1 w1 ⟨rfl, rfl⟩; have HCK0 := Lib.hid (HCK.out w0)) | (go_at_call 191; refine HCK0.out.mono ?_; rintro e2 w2 ⟨rfl, hb2⟩; have HB2 := Lib.hid hb2; clear hb2))
  have HSP := Lib.hid (psplit_is w2)
  go_upto_region 10 with (go_at_call 65; refine HSP.out.mono ?_; rintro e3 w3 ⟨gl, cl, rfl, hgl, hcl, q1, q2, hb3⟩)
  have hlgl : gl < w3.heap.size := World.block_lt_of_cell? w3 _ hcl
  have HG := Lib.hid (And.intro (Nat.le_trans hsz (Nat.le_trans HB2.out.size hgl)) (And.intro hcl (And.intro q1 (And.intro q2 hlgl))))
  have HB3 := Lib.hid (HB2.out.trans (hb3.mono HB2.out.size))
  clear hgl hcl q1 q2 hlgl hb3 l0
  have HK : Hid (∀ wx, Below w3.heap.size w3 wx → (ldR 63 (.pointer (some ⟨w.heap.size, 0, none⟩))).run Tryz.prog wx = .ok (.agg A) wx) := Lib.hid (fun wx hb => HL.out _ (HB3.out.trans (hb.mono HB3.out.size)))
  have HB4 := Lib.hid (HB.out.trans (HB3.out.mono HB.out.size))
  go_upto_region 12 with fail
  go_region_held3 (fun wx => (ldR 63 (.pointer (some ⟨w.heap.size, 0, none⟩))).run Tryz.prog wx = .ok (.agg A) wx) (first | (with_reducible exact HK.out _ (Below.refl _ _)) | (with_reducible exact HK.out _ (Below.refl _ _).drew) | (with_reducible exact HK.out _ HB5.out) | (with_reducible exact HK.out _ (HB5.out.alloc HB5.out.size _)) | fail) (first | (go_at_call 135; (with_reducible refine (HCL.out _ HB4.out.drew).mono ?_); rintro e4 w4 ⟨v4, rfl, ho4, hb4⟩; obtain ⟨pa, pc, rfl⟩ := own_form ho4; have HO := Lib.hid ho4; have HB5 := Lib.hid ((Below.refl w3.heap.size w3).drew.trans hb4); clear ho4 hb4) | fail)
  have HB6 := Lib.hid (Go.Joins.below_alloc1 w4 (.cells (wkA F U K a cap (.slice pa 1 pc)) 375))
  have HR6 := Lib.hid (row_new w4 375 (wkA F U K a cap (.slice pa 1 pc)))
  generalize w4.alloc (.cells (wkA F U K a cap (.slice pa 1 pc)) 375) = w6 at *
  generalize hZ : wkA F U K a cap (.slice pa 1 pc) = Z at HR6 ⊢
  have HZ := Lib.hid hZ
  clear hZ
  go_wp2_with fail
  go_ret3
  obtain ⟨g1, g2, g3, g4, g5⟩ := HG.out
  have hz5 : w3.heap.size ≤ w4.heap.size := HB5.out.size
  have hzb := HB4.out.size
  refine ⟨w4.heap.size, pa, pc, gl, cl, rfl, Nat.le_trans hzb hz5, (by rw [HZ.out]; exact HR6.out), owns_keep (owns_base HO.out hzb) HB6.out, fun e => by have := (HO.out.lt _ e).2; omega, fun e => by omega, fun g e => Nat.lt_of_lt_of_le g5 (HO.out.lt _ e).1, g1, ?_, g3, g4, HB4.out.trans ((HB5.out.trans (HB6.out.mono hz5)).mono hzb)⟩
  rw [← g2]
  exact (HB5.out.trans (HB6.out.mono hz5)).cell (p := ⟨gl, 0, none⟩) g5
end
end Go.Proofs.YtcdjkheelbikjaaGreatDoor
namespace Go.Proofs.YtcdjkheelbikjaaGreatDoor
open Go.RowKit Go.Maps
set_option linter.unusedVariables false
set_option linter.unusedSimpArgs false
theorem method_stat (v : Value) (w : World) : (method 624 71 v "Stat").run Tryz.prog w = .ok (166, v) w := by kernel_rfl
theorem method_look (v : Value) (w : World) : (method 624 71 v "Look").run Tryz.prog w = .ok (66, v) w := by kernel_rfl
theorem Row.stS {w : World} {b : Nat} (h : Row w b 35 (#[.int .i64 0, .int .i64 0, .int .i64 0, .int .i64 0, .int .i64 0, .int .i64 0] : Array Value)) (n : Nd) : (stR 35 (.pointer (some ⟨b, 0, none⟩)) (.agg (stA n))).run Tryz.prog w = .ok () (w.setRow b (stA n)) := h.st0 rfl (by kernel_rfl) (by simp [stA, Value.oneCell'])
theorem stS_new (w : World) (n : Nd) : (stR 35 (.pointer (some ⟨w.heap.size, 0, none⟩)) (.agg (stA n))).run Tryz.prog (w.alloc (.cells (#[.int .i64 0, .int .i64 0, .int .i64 0, .int .i64 0, .int .i64 0, .int .i64 0] : Array Value) 35)) = .ok () (w.alloc (.cells (stA n) 35)) := st0_new w rfl (by kernel_rfl) (by simp [stA, Value.oneCell'])
theorem below_drewN_alloc (w : World) (k : Nat) (o : Obj) : Below w.heap.size w ((w.drewN k).alloc o) := (below_drewN (Below.refl w.heap.size w) k).alloc (by have := (below_drewN (Below.refl w.heap.size w) k).size; exact Nat.le_refl _) o
theorem row_drewN (w : World) (k T : Nat) (c : Array Value) : Row ((w.drewN k).alloc (.cells c T)) w.heap.size T c := by
  have := row_new (w.drewN k) T c
  simpa using this
section
variable {w : World} {c : FC} {x : FM}
attribute [local go_sem ↓] ld_sta st_sta ld_crd
attribute [local go_sem] stS_new
set_option maxRecDepth 100000 in
set_option maxHeartbeats 800000 in
theorem pmay_is {b : Nat} {U K : Int} {a : Option Addr} {cap g cp : Nat} (h : FSt w c x) (hk : (x.nd 0).k = 2) (hw : Row w b 375 (wkA c.F U K a cap (.slice (some ⟨g, 0, none⟩) 1 cp))) (h3 : w.cell? ⟨g, 0, none⟩ = some (.int .i64 1)) (h1 : 1 ≤ cp) (h2 : cp ≤ maxLen)
    (hM : ∀ w, Calls Tryz.prog 175 #[.agg (stA (x.nd 0)), .agg (crA U K a cap), .int .i64 4] w fun e w' => e = .returned (.tuple #[.bool true, .int .i64 0]) ∧ Below w.heap.size w w') :
    Calls Tryz.prog 297 #[.pointer (some ⟨b, 0, none⟩)] w fun e w' => e = .returned (.int .i64 0) ∧ Below w.heap.size w w' := by
  have hg : g < w.heap.size := World.block_lt_of_cell? w _ h3
  have HTOP := Lib.hid (fun wx (hb : Below w.heap.size w wx) => ptop_is (hw.keep hb) ((hb.cell (p := ⟨g, 0, none⟩) hg).trans h3) h1 h2)
  have HST := Lib.hid (fun wx (hb : Below w.heap.size w wx) => statF_is (h.keep hb) (i := 0) (by decide) (n := 1) rfl (by rw [hk]; decide))
  have HM := Lib.hid hM
  have c0 : w.cell? ⟨b, 0, none⟩ = some (.iface 71 (.pointer (some ⟨c.F, 0, none⟩))) := hw.cell 0
  have hlt := hw.lt
  have HW := Lib.hid hw
  have hms := method_stat
  have hst0 : (stA (x.nd 0))[0]? = some (.int .i64 2) := by show some (Value.int .i64 (x.nd 0).k) = _; rw [hk]
  have HZ2 := Lib.hid (fun k => (row_new w 35 (#[.int .i64 0, .int .i64 0, .int .i64 0, .int .i64 0, .int .i64 0, .int .i64 0] : Array Value)).keep (below_drewN (Below.refl _ _) k))
  have HZC := Lib.hid (fun k => below_drewN (Go.Joins.below_alloc1 w (.cells (#[.int .i64 0, .int .i64 0, .int .i64 0, .int .i64 0, .int .i64 0, .int .i64 0] : Array Value) 35)) k)
  have HZ1 := Lib.hid (fun k => row_drewN w k 35 (#[.int .i64 0, .int .i64 0, .int .i64 0, .int .i64 0, .int .i64 0, .int .i64 0] : Array Value))
  have HZB := Lib.hid (fun k => below_drewN_alloc w k (.cells (#[.int .i64 0, .int .i64 0, .int .i64 0, .int .i64 0, .int .i64 0, .int .i64 0] : Array Value) 35))
  have HD0 := Lib.hid (show Below w.heap.size w w.drew from (Below.refl _ _).drew)
  have HD1 := Lib.hid (show Below w.heap.size w (w.alloc (.cells (#[.int .i64 0, .int .i64 0, .int .i64 0, .int .i64 0, .int .i64 0, .int .i64 0] : Array Value) 35)).drew from ((Below.refl _ _).alloc (Nat.le_refl _) _).drew)
  have HBO : Hid (∀ w', Below w.heap.size w w' → (Below w.heap.size w w' ∧ w'.cell? ⟨b, 0, none⟩ = some (.iface 71 (.pointer (some ⟨c.F, 0, none⟩))))) := Lib.hid (fun w' hb => ⟨hb, (hb.cell (p := ⟨b, 0, none⟩) hlt).trans c0⟩)
  have HSA := Lib.hid hst0
  clear h hw h3 h1 h2 hM hk hg hst0
  generalize hnd : x.nd 0 = nd at *
  clear hnd
  go_enter Tryz.func297, Tryz.ntmps297
  go_upto_region 1 with fail
  go_cut [3, 4] (fun s3 s4 wx => s4 = .int .i64 0 ∧ ∃ b9, s3 = .pointer (some ⟨b9, 0, none⟩) ∧ w.heap.size ≤ b9 ∧ Below w.heap.size w wx ∧ Row wx b9 35 (stA nd))
  case first =>
    go_region_held3 (fun w' => Below w.heap.size w w' ∧ w'.cell? ⟨b, 0, none⟩ = some (.iface 71 (.pointer (some ⟨c.F, 0, none⟩)))) (first | assumption | (with_reducible exact HBO.out _ HD0.out) | (with_reducible exact HBO.out _ (below_drewN (Below.refl _ _) _)) | (with_reducible exact HBO.out _ (below_drewN (Go.Joins.below_alloc1 _ _) _)) | (with_reducible exact HBO.out _ (below_drewN (And.left ‹_›) _)) | (with_reducible exact HBO.out _ HD1.out) | (with_reducible exact HBO.out _ (below_setRow (And.left ‹_›) (Nat.le_refl _) _)) | (with_reducible exact HBO.out _ (Below.alloc (And.left ‹_›) (Below.size (And.left ‹_›)) _)) | go_keep)
      (first | (go_at_call 303; refine (HTOP.out _ (‹Below w.heap.size w _ ∧ _›).1).mono ?_; rintro e9 w9 ⟨rfl, k9, rfl⟩; have hS := HBO.out _ (below_drewN (‹Below w.heap.size w _ ∧ _›).1 k9)) | (go_at_call 166; (with_reducible refine (HST.out ((w.alloc (.cells (#[.int .i64 0, .int .i64 0, .int .i64 0, .int .i64 0, .int .i64 0, .int .i64 0] : Array Value) 35)).drewN _) (HZC.out _)).mono ?_); rintro e9 w9 ⟨rfl, hb9⟩; have hst := ((HZ2.out _).keep hb9).stS nd; have hS := HBO.out _ ((HZC.out _).trans (hb9.mono (HZC.out _).size))) | (go_at_call 166; (with_reducible refine (HST.out ((w.drewN _).alloc (.cells (#[.int .i64 0, .int .i64 0, .int .i64 0, .int .i64 0, .int .i64 0, .int .i64 0] : Array Value) 35)) (HZB.out _)).mono ?_); rintro e9 w9 ⟨rfl, hb9⟩; have hst := ((HZ1.out _).keep hb9).stS nd; have hS := HBO.out _ ((HZB.out _).trans (hb9.mono (HZB.out _).size))) | (go_at_call 166; refine (HST.out _ (‹Below w.heap.size w _ ∧ _›).1).mono ?_; rintro e9 w9 ⟨rfl, hb9⟩; have hS := HBO.out _ ((‹Below w.heap.size w _ ∧ _›).1.trans (hb9.mono (‹Below w.heap.size w _ ∧ _›).1.size))))
    all_goals go_wp2
    all_goals go_meet
    all_goals first
      | exact ⟨rfl, _, rfl, hS.1.size, hS.1.alloc hS.1.size _, row_new _ _ _⟩
      | exact ⟨rfl, _, rfl, Nat.le_refl _, below_setRow hS.1 (Nat.le_refl _) _, ((HZ1.out _).keep hb9).setRow _⟩
      | exact ⟨rfl, _, rfl, Nat.le_refl _, below_setRow hS.1 (Nat.le_refl _) _, ((HZ2.out _).keep hb9).setRow _⟩
  case rest =>
    obtain ⟨rfl, b3, rfl, hbl, hbc, hr3⟩ := hcut
    have k0 : wc.cell? ⟨b3, 0, none⟩ = some (.int .i64 2) := (hr3.cell 0).trans HSA.out
    have hwk := HW.out.keep hbc
    have HBC := Lib.hid hbc
    have HL : Hid (∀ wx, Below wc.heap.size wc wx → ((ldR 35 (.pointer (some ⟨b3, 0, none⟩))).run Tryz.prog wx = .ok (.agg (stA nd)) wx ∧ (ldR 63 (.pointer (some ⟨b, 2, none⟩))).run Tryz.prog wx = .ok (.agg (crA U K a cap)) wx)) := Lib.hid (fun wx hb => ⟨(hr3.keep hb).ld0 Tryz.underlying35 rfl (by unfold stA; kernel_rfl), (hwk.keep hb).ld (o := 2) (n := 6) (by show 2 + 6 ≤ 10; decide) Tryz.underlying63 rfl (by kernel_rfl)⟩)
    clear hbl hbc hr3 hwk HTOP HST HZ1 HZ2 HZB HZC HD0 HD1 HBO c0
    go_upto_region 6 with fail
    go_region_held3 (fun wx => (ldR 35 (.pointer (some ⟨b3, 0, none⟩))).run Tryz.prog wx = .ok (.agg (stA nd)) wx ∧ (ldR 63 (.pointer (some ⟨b, 2, none⟩))).run Tryz.prog wx = .ok (.agg (crA U K a cap)) wx) (first | (with_reducible exact HL.out _ (Below.refl _ _)) | (with_reducible exact HL.out _ (Below.refl _ _).drew) | (with_reducible exact HL.out _ HB9.out) | fail)
          (first | (go_at_call 175; (with_reducible refine (HM.out _).mono ?_); rintro e9 w9 ⟨rfl, hb9⟩; have HB9 := Lib.hid ((Below.refl wc.heap.size wc).drew.trans hb9); clear hb9) | fail)
    go_wp2_with fail
    go_ret
    exact ⟨rfl, HBC.out.trans (HB9.out.mono HBC.out.size)⟩
end
end Go.Proofs.YtcdjkheelbikjaaGreatDoor
namespace Go.Proofs.YtcdjkheelbikjaaGreatDoor
open Go.RowKit Go.Maps
set_option linter.unusedVariables false
set_option linter.unusedSimpArgs false
theorem own1 {w : World} {B cp : Nat} {sp : Option Addr} {x : Int} (h : w.ownsRow B 3 1 (.slice sp 1 cp) 1 [.int .i64 x]) : ∃ g, sp = some ⟨g, 0, none⟩ ∧ B ≤ g ∧ g < w.heap.size ∧ 1 ≤ cp ∧ cp ≤ maxLen ∧ w.cell? ⟨g, 0, none⟩ = some (.int .i64 x) := by
  obtain ⟨g, rfl, h1, h2, h3, h4⟩ := own_block h (by decide)
  exact ⟨g, rfl, h1, h2, h3, h4, h.cells (g := g) rfl 0 (.int .i64 x) rfl⟩
section
variable {w : World} {c : FC} {x : FM}
set_option maxRecDepth 100000 in
theorem pwalk0_is (w : World) (b gl cl : Nat) (h2 : cl ≤ maxLen) : Calls Tryz.prog 247 #[.pointer (some ⟨b, 0, none⟩), .slice (some ⟨gl, 0, none⟩) 0 cl, .bool true] w fun e w' => e = .returned (.int .i64 0) ∧ w = w' := by
  go_enter Tryz.func247, Tryz.ntmps247
  go_wp2_with fail
  refine wp_loop_rounds 1 ?_
  rw [rounds_succ]
  go_wp2_with fail
  go_ret
  exact ⟨rfl, rfl⟩
set_option maxRecDepth 100000 in
set_option maxHeartbeats 800000 in
theorem pwalkN_is {b : Nat} {U K : Int} {a : Option Addr} {cap g cp : Nat} (h : FSt w c x) (hk : (x.nd 0).k = 2) (hp : (x.nd 0).ps = []) (hs : (x.nd 0).sz = 0) (hw : Row w b 375 (wkA c.F U K a cap (.slice (some ⟨g, 0, none⟩) 1 cp))) (h3 : w.cell? ⟨g, 0, none⟩ = some (.int .i64 1)) (h1 : 1 ≤ cp) (h2 : cp ≤ maxLen)
    (hM : ∀ w, Calls Tryz.prog 175 #[.agg (stA (x.nd 0)), .agg (crA U K a cap), .int .i64 4] w fun e w' => e = .returned (.tuple #[.bool true, .int .i64 0]) ∧ Below w.heap.size w w')
    {gl cl : Nat} (hgl : w.cell? ⟨gl, 0, none⟩ = some (.string ⟨#[102]⟩)) (k1 : 1 ≤ cl) (k2 : cl ≤ maxLen) :
    Calls Tryz.prog 247 #[.pointer (some ⟨b, 0, none⟩), .slice (some ⟨gl, 0, none⟩) 1 cl, .bool true] w fun e w' => e = .returned (.int .i64 4) ∧ Below w.heap.size w w' := by
  have hg : g < w.heap.size := World.block_lt_of_cell? w _ h3
  have HMAY := Lib.hid (pmay_is h hk hw h3 h1 h2 hM)
  have HTOP := Lib.hid (fun wx (hb : Below w.heap.size w wx) => ptop_is (hw.keep hb) ((hb.cell (p := ⟨g, 0, none⟩) hg).trans h3) h1 h2)
  have HLK := Lib.hid (fun wx (hb : Below w.heap.size w wx) => look0_is (h.keep hb) (i := 0) (by decide) (n := 1) rfl hk hp hs)
  have HC0 := Lib.hid (fun wx (hb : Below w.heap.size w wx) => (show wx.cell? ⟨b, 0, none⟩ = some (.iface 71 (.pointer (some ⟨c.F, 0, none⟩))) from (hw.keep hb).cell 0))
  have hms := method_look
  have hcm : (cl : Int) ≤ 9223372036854775807 := by unfold maxLen at k2; omega
  have hc1 : (1 : Int) ≤ (cl : Int) := by omega
  clear h hk hp hs hw h3 h1 h2 hM hg k2
  go_enter Tryz.func247, Tryz.ntmps247
  go_wp2_with fail
  refine wp_loop_rounds 1 ?_
  rw [rounds_succ]
  go_upto_region 12 with (go_at_call 297; (with_reducible refine HMAY.out.mono ?_); rintro e1 w1 ⟨rfl, hb1⟩)
  have HB1 := Lib.hid hb1
  generalize (if cl = 1 then (some ⟨gl, 0, none⟩ : Option Addr) else some ⟨gl, 1, none⟩) = al at *
  have a0 := HC0.out _ hb1
  have HBO : Hid (∀ wx, Below w1.heap.size w1 wx → (Below w1.heap.size w1 wx ∧ wx.cell? ⟨b, 0, none⟩ = some (.iface 71 (.pointer (some ⟨c.F, 0, none⟩))))) := Lib.hid (fun wx hb => ⟨hb, HC0.out _ (HB1.out.trans (hb.mono HB1.out.size))⟩)
  have HT1 : Hid (∀ wx, Below w1.heap.size w1 wx → Calls Tryz.prog 303 #[.pointer (some ⟨b, 0, none⟩)] wx fun e w' => e = .returned (.int .i64 1) ∧ ∃ k, w' = wx.drewN k) := Lib.hid (fun wx hb => HTOP.out _ (HB1.out.trans (hb.mono HB1.out.size)))
  have HL1 : Hid (∀ wx, Below w1.heap.size w1 wx → Calls Tryz.prog 66 #[.pointer (some ⟨c.F, 0, none⟩), .int .i64 1, .string ⟨#[102]⟩] wx fun e w' => e = .returned (.tuple #[.int .i64 0, .int .i64 4]) ∧ Below wx.heap.size wx w') := Lib.hid (fun wx hb => HLK.out _ (HB1.out.trans (hb.mono HB1.out.size)))
  clear hb1 HMAY HTOP HLK HC0
  go_region_held3 (fun wx => wx.cell? ⟨b, 0, none⟩ = some (.iface 71 (.pointer (some ⟨c.F, 0, none⟩)))) (first | (with_reducible exact (HBO.out _ (Below.refl _ _)).2) | (with_reducible exact (HBO.out _ (Below.refl _ _).drew).2) | (with_reducible exact (HBO.out _ (below_drewN (Below.refl _ _) _)).2) | (with_reducible exact (HBO.out _ HB2.out).2) | fail)
      (first | (go_at_call 303; (with_reducible refine (HT1.out _ (Below.refl _ _).drew).mono ?_); rintro e9 w9 ⟨rfl, k9, rfl⟩) | (go_at_call 66; (with_reducible refine (HL1.out _ (below_drewN (Below.refl _ _) _)).mono ?_); rintro e2 w2 ⟨rfl, hb2⟩; have HB2 := Lib.hid ((below_drewN (Below.refl w1.heap.size w1) _).trans hb2); clear hb2))
  go_wp2_with fail
  go_ret
  exact ⟨rfl, HB1.out.trans (HB2.out.mono HB1.out.size)⟩
end
end Go.Proofs.YtcdjkheelbikjaaGreatDoor
