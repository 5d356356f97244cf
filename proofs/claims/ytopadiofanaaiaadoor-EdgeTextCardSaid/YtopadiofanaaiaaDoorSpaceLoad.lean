/- The walks of space's fetch (one byte) and Load. -/
import Derived.Test.YtopadiofanaaiaaDoorSpaceMay
import Derived.Deep.CutBlock
import Derived.StillTailTactics
namespace Go.Proofs.YtopadiofanaaiaaDoor
open Go.RowKit Go.Maps
set_option linter.unusedVariables false
set_option linter.unusedSimpArgs false
def app32 := Builtin.append_ #[32, 32] 32
theorem app32_eq : Builtin.append_ #[32, 32] 32 = app32 := rfl
theorem info5 : (Tryd.prog.info? 5).map (fun i => (i.zero, i.size, i.bytes)) = some (some (.int .u8 0), 1, 1) := by kernel_rfl
theorem below_none {w w' : World} (h : w.grownBy w' none) : Below w.heap.size w w' := ⟨h.os, h.tape, h.output, h.size, fun k hk => h.block k hk (by simp)⟩
section
variable {Z : Nat} {tag : Nat → Nat} {w : World} {M so im : Nat} {pv : Value} {pg : Nat → Nat} {np : Nat} {first : Int} {dt : Nat → Nat → Int}
attribute [local go_sem ↓] app32_eq
set_option maxRecDepth 100000 in
set_option maxHeartbeats 400000 in
theorem fetch_is (h : Mem Z tag w M so im pv pg np first dt) {ad : Int} (hf : 0 ≤ first) (ha : 0 ≤ ad) (ha' : ad < 1024) (hlo : first ≤ ad / 16) (hhi : ad / 16 < first + np) : Calls Tryd.prog 30 #[.pointer (some ⟨M, 0, none⟩), .int .i64 1, .int .i64 ad, .int .i64 1] w fun e w' => (∃ v, e = .returned v ∧ w'.ownsRow w.heap.size 5 1 v 1 [.int .u8 (dt (ad / 16 - first).toNat (ad % 16).toNat)]) ∧ Mem Z tag w' M so im pv pg np first dt ∧ Turn tag w w' := by
  have HM := Lib.hid h
  have m4 := h.m4
  have l1 := h.one
  have l2 := h.at1 (k := ad / 16) hf (by omega) (by omega) (by omega)
  have fd := field46 (.pointer (some ⟨pg (ad / 16 - first).toNat, 0, none⟩)) (.int .i64 3) w
  have HASK := Lib.hid (ask_is h (i := (ad / 16 - first).toNat) (by omega))
  have HPG := Lib.hid (fun (wx : World) (hx : Mem Z tag wx M so im pv pg np first dt) => hx.pgs (ad / 16 - first).toNat (by omega))
  have y1 : IntKind.i64.wrap (ad + 1) = ad + 1 := IntWalk.i64_in _ (by omega)
  have q0 := tdiv16 ha
  have q1 : ad.tmod 16 = ad % 16 := Int.tmod_eq_emod_of_nonneg ha
  have i1 : ad < ad + 1 := by omega
  obtain ⟨j, hj⟩ : ∃ j : Nat, ad % 16 = (j : Int) := ⟨(ad % 16).toNat, by omega⟩
  have hj16 : j < 16 := by omega
  rw [hj] at q1 ⊢
  rw [show ((j : Int)).toNat = j by omega]
  generalize (ad / 16 - first).toNat = i at *
  generalize hlo' : ad / 16 = lo at *
  have y3 : IntKind.i64.wrap lo = lo := IntWalk.i64_in _ (by omega)
  have y4 : IntKind.i64.wrap (j : Int) = (j : Int) := IntWalk.i64_in _ (by omega)
  have j1 : (j : Int) < 16 := by omega
  generalize pg i = g at *
  clear h hlo' hj
  go_enter Tryd.func30, Tryd.ntmps30
  go_wp2_with fail
  refine wp_loop_rounds 2 ?_
  rw [rounds_succ]
  go_upto_region 7 with (go_at_call 22; refine HASK.out.mono ?_; rintro e1 w1 ⟨rfl, hm1, ht1⟩)
  have dc := (HPG.out w1 hm1).dc j hj16
  have HTT := Lib.hid ht1
  have HM1 := Lib.hid hm1
  have hal := Go.Joins.below_alloc1 w1 (.cells #[.int .u8 (dt i j)] 5)
  obtain ⟨i0, hi5, hz0, hz1, hz2⟩ := info_parts info5
  obtain ⟨v2, w2, hap, own2, grow2, -⟩ := run_append_fresh (P := Tryd.prog) (w1.alloc (.cells #[.int .u8 (dt i j)] 5)) w.heap.size 32 32 5 i0 (.int .u8 0) 1 1 Tryd.underlying32 hi5 hz0 hz1 hz2 rfl (by decide) (.slice none 0 0) 0 [] (World.ownsRow_nil _ _ _ _) ⟨w1.heap.size, 0, none⟩ 1 1 [.int .u8 (dt i j)] rfl (cells_new w1 [.int .u8 (dt i j)] 5) (by simp [Value.oneCell']) (by unfold maxLen; omega) (by omega) (by have := ht1.size; simp; omega)
  rw [app32_eq] at hap
  have hb2 : Below (w1.alloc (.cells #[.int .u8 (dt i j)] 5)).heap.size (w1.alloc (.cells #[.int .u8 (dt i j)] 5)) w2 := below_none grow2
  have HF := Lib.hid ((hm1.keep hal).keep hb2)
  have HT2 := Lib.hid ((ht1.trans (Turn.of_below hal)).trans (Turn.of_below hb2))
  have HOW : Hid (w2.ownsRow w.heap.size 5 1 v2 1 [.int .u8 (dt i j)]) := Lib.hid own2
  have ht16 : ((j : Int)).toNat = j := by omega
  clear hm1 ht1 hal hi5 hz0 hz1 hz2 own2 grow2 hb2
  go_wp2_with fail
  rw [rounds_succ]
  go_wp2_with fail
  go_ret
  exact ⟨⟨v2, rfl, HOW.out⟩, HF.out, HT2.out⟩
set_option maxRecDepth 100000 in
set_option maxHeartbeats 400000 in
theorem load_is (h : Mem Z tag w M so im pv pg np first dt) {ad : Int} (hf : 0 ≤ first) (ha : 0 ≤ ad) (ha' : ad < 1024) (hlo : first ≤ ad / 16) (hhi : ad / 16 < first + np) : Calls Tryd.prog 19 #[.pointer (some ⟨M, 0, none⟩), .int .i64 1, .int .u32 ad, .int .i64 1] w fun e w' => e = .returned (.tuple #[.int .u8 (dt (ad / 16 - first).toNat (ad % 16).toNat), .int .i64 0]) ∧ Mem Z tag w' M so im pv pg np first dt ∧ Turn tag w w' := by
  have m4 := h.m4
  have l1 := h.one
  have l2 := not_nil im w
  have HMAY := Lib.hid (may_is h (ad := ad) (n := 1) (wt := 1) hf (by omega) (by omega) ha (by omega) hlo (by rw [show ad + 1 - 1 = ad by omega]; exact hhi) (.inl rfl))
  have HFE := Lib.hid (fun (wx : World) (hb : Below w.heap.size w wx) => fetch_is (h.keep hb) hf ha ha' hlo hhi)
  have y3 : IntKind.i64.wrap ad = ad := IntWalk.i64_in _ (by omega)
  generalize dt (ad / 16 - first).toNat (ad % 16).toNat = x at *
  clear h
  go_enter Tryd.func19, Tryd.ntmps19
  go_upto_region 7 with (go_at_call 17; refine HMAY.out.mono ?_; rintro e1 w1 ⟨rfl, hb1⟩)
  have HB1 := Lib.hid hb1
  have HF1 := Lib.hid (HFE.out w1 hb1)
  clear hb1 HFE HMAY
  go_wp2_with (go_at_call 30; refine HF1.out.mono ?_; rintro e2 w2 ⟨⟨v2, rfl, ho⟩, hm2, ht2⟩; obtain ⟨a2, k2, rfl⟩ := own_form ho; obtain ⟨g2, rfl, hg0, hg1, hg2, hg3⟩ := own_block ho (by decide); have hc := ho.cells (g := g2) rfl 0 (.int .u8 x) rfl; rw [Addr.add_lit] at hc; have HR := Lib.hid (And.intro hm2 ((Turn.of_below HB1.out).trans ht2)); clear ho hm2 ht2)
  go_ret2
  exact ⟨rfl, HR.out⟩
set_option maxRecDepth 100000 in
set_option maxHeartbeats 400000 in
theorem load_no (h : Mem Z tag w M so im pv pg np first dt) {ad : Int} (ha : 0 ≤ ad) (ha' : ad < 1024) (hno : ¬ (first ≤ ad / 16 ∧ ad / 16 < first + np)) : Calls Tryd.prog 19 #[.pointer (some ⟨M, 0, none⟩), .int .i64 1, .int .u32 ad, .int .i64 1] w fun e w' => e = .returned (.tuple #[.int .u8 0, .int .i64 11]) ∧ Below w.heap.size w w' := by
  have m4 := h.m4
  have l1 := h.one
  have l2 := not_nil im w
  have HMAY := Lib.hid (may_no h (ad := ad) (wt := 1) ha ha' hno)
  have y3 : IntKind.i64.wrap ad = ad := IntWalk.i64_in _ (by omega)
  clear h hno
  go_enter Tryd.func19, Tryd.ntmps19
  go_wp2_with (go_at_call 17; refine HMAY.out.mono ?_; rintro e1 w1 ⟨rfl, hb1⟩)
  go_ret2
  exact ⟨rfl, hb1⟩
end
end Go.Proofs.YtopadiofanaaiaaDoor
