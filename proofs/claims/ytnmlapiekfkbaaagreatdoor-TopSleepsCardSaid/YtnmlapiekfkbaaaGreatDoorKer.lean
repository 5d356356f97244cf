/- The walks of fs.Sync, journal.Commit where nothing is to be written. The walk of boot.Make where no file is laid. The kernel's block, by its cells. -/
import Derived.Test.YtnmlapiekfkbaaaGreatDoorFmtP
import Derived.Laws.IdiomRangeMap
import Derived.Test.YtnmlapiekfkbaaaGreatDoorFormat
import Derived.Test.YtnmlapiekfkbaaaGreatDoorBegin
import Derived.Test.YtnmlapiekfkbaaaGreatDoorProcPlain
import Derived.Test.YtnmlapiekfkbaaaGreatDoorOpenWalk
import Derived.Test.YtnmlapiekfkbaaaGreatDoorOpenOpen
namespace Go.Proofs.YtnmlapiekfkbaaaGreatDoor
open Go.RowKit
set_option linter.unusedVariables false
set_option linter.unusedSimpArgs false
theorem ret0 {P : Program} {fn : Func} {R : Ending → World → Prop} {a : Act} {w : World} (h : fn.results = #[]) (hd : a.defers = []) (hr : R (.returned (.tuple #[])) w) : bodyPost P fn R .ret a w := bodyPost_ret (results_none h _ _ _) hd hr
set_option maxRecDepth 100000 in
set_option maxHeartbeats 400000 in
theorem isort0_is (w : World) (f : Value) : Calls Tryz.prog 314 #[.slice none 0 0, .int .i64 0, .int .i64 0, f] w fun e w' => e = .returned (.tuple #[]) ∧ w = w' := by
  go_enter Tryz.func314, Tryz.ntmps314
  go_wp2_with fail
  refine wp_loop_rounds 1 ?_
  rw [rounds_succ]
  go_wp2_with fail
  (try simp only [Exit.inBlock, Exit.then]); first | (refine bodyPost_ret (results_none rfl _ _ _) rfl ?_) | (refine bodyPost_end (results_none rfl _ _ _) rfl ?_)
  exact ⟨rfl, rfl⟩
set_option maxRecDepth 100000 in
set_option maxHeartbeats 400000 in
theorem pdq0_is (w : World) (n f : Value) : Calls Tryz.prog 258 #[.slice none 0 0, .int .i64 0, .int .i64 0, n, f] w fun e w' => e = .returned (.tuple #[]) ∧ w = w' := by
  have HI := Lib.hid (isort0_is w f)
  go_enter Tryz.func258, Tryz.ntmps258
  go_wp2_with fail
  refine wp_loop_rounds 1 ?_
  rw [rounds_succ]
  go_wp2_with (go_at_call 314; refine HI.out.mono ?_; rintro e1 w1 ⟨rfl, rfl⟩)
  (try simp only [Exit.inBlock, Exit.then]); first | (refine bodyPost_ret (results_none rfl _ _ _) rfl ?_) | (refine bodyPost_end (results_none rfl _ _ _) rfl ?_)
  exact ⟨rfl, rfl⟩
set_option maxRecDepth 100000 in
set_option maxHeartbeats 400000 in
theorem len64_is (w : World) : Calls Tryz.prog 323 #[.int .u64 0] w fun e w' => e = .returned (.int .i64 0) ∧ w = w' := by
  go_enter Tryz.func323, Tryz.ntmps323
  go_wp2_with fail
  go_ret
  exact ⟨by kernel_rfl, rfl⟩
set_option maxRecDepth 100000 in
set_option maxHeartbeats 400000 in
theorem len_is (w : World) : Calls Tryz.prog 259 #[.int .u64 0] w fun e w' => e = .returned (.int .i64 0) ∧ w = w' := by
  have HI := Lib.hid (len64_is w)
  go_enter Tryz.func259, Tryz.ntmps259
  go_wp2_with (go_at_call 323; refine HI.out.mono ?_; rintro e1 w1 ⟨rfl, rfl⟩)
  go_ret
  exact ⟨rfl, rfl⟩
set_option maxRecDepth 100000 in
set_option maxHeartbeats 400000 in
theorem sortf0_is (w : World) (f : Value) : Calls Tryz.prog 181 #[.slice none 0 0, f] w fun e w' => e = .returned (.tuple #[]) ∧ w = w' := by
  have HI := Lib.hid (len_is w)
  have HP := Lib.hid (pdq0_is w (.int .i64 0) f)
  go_enter Tryz.func181, Tryz.ntmps181
  go_wp2_with (first | (go_at_call 259; refine HI.out.mono ?_; rintro e1 w1 ⟨rfl, rfl⟩) | (go_at_call 258; refine HP.out.mono ?_; rintro e1 w1 ⟨rfl, rfl⟩))
  (try simp only [Exit.inBlock, Exit.then]); first | (refine bodyPost_ret (results_none rfl _ _ _) rfl ?_) | (refine bodyPost_end (results_none rfl _ _ _) rfl ?_)
  exact ⟨rfl, rfl⟩
section
variable {w w' : World} {D sb nb m B F L a : Nat} {wv : Value} {s f : List Int}
theorem fsA_get1 (d l v : Value) (a b : Nat) : (fsA d l v a b)[1]? = some l := by
  unfold fsA
  rw [Array.getElem?_append_left (by simp; omega), Array.getElem?_append_left (by simp)]
  rfl
theorem fsA_get5 (d l v : Value) (a b : Nat) : (fsA d l v a b)[196]? = some (.map (some a)) := by
  unfold fsA
  rw [Array.getElem?_append_right (by simp [forA_size])]
  simp [forA_size]
set_option maxRecDepth 100000 in
set_option maxHeartbeats 400000 in
theorem writes0_is (h : FSw w B F D L a) : Calls Tryz.prog 96 #[.pointer (some ⟨F, 0, none⟩)] w fun e w' => e = .returned (.slice none 0 0) ∧ Below w.heap.size w w' := by
  obtain ⟨z, n, c, b, hF⟩ := h.f
  have c5 : w.cell? ⟨F, 196, none⟩ = some (.map (some a)) := by
    rw [cell_of_row w F 196 _ _ (0, 0) hF, fsA_get5]
  have hr := run_range_map (P := Tryz.prog) w 186 3 29 a #[] 0 Tryz.underlying186 h.m
  have hn := fun ty => run_next_map (P := Tryz.prog) w ty a 0 0 #[] #[] 0 h.m (by simp) (Nat.le_refl _)
  have hn2 : ∀ ty, (Instr.next (.pointer (some ⟨w.heap.size, 0, none⟩)) false ty).run Tryz.prog (w.alloc (.mapIter (some a) 0 #[] 0)) = .ok (.tuple #[.bool false]) (w.alloc (.mapIter (some a) 0 #[] 0)) := fun ty => by
    rcases hn ty with h | ⟨e, he, _⟩
    · exact h.2
    · exact absurd he (by simp [leftOf])
  have HB := Lib.hid (Go.Joins.below_alloc1 w (.mapIter (some a) 0 #[] 0))
  have HS := Lib.hid (fun f => sortf0_is (w.alloc (.mapIter (some a) 0 #[] 0)) f)
  clear hn hF h
  go_enter Tryz.func96, Tryz.ntmps96
  go_upto_region 3 with fail
  generalize w.alloc (.mapIter (some a) 0 #[] 0) = w1 at *
  refine wp_loop_rounds 1 ?_
  rw [rounds_succ]
  go_wp2_with (go_at_call 181; refine (HS.out _).mono ?_; rintro e1 w1 ⟨rfl, rfl⟩)
  go_ret
  exact ⟨rfl, HB.out⟩
set_option maxRecDepth 100000 in
set_option maxHeartbeats 400000 in
theorem room0_is (h : FSw w B F D L a) : Calls Tryz.prog 244 #[.pointer (some ⟨L, 0, none⟩)] w fun e w' => e = .returned (.int .i64 30) ∧ w = w' := by
  have c2 : w.cell? ⟨L, 2, none⟩ = some (.int .i64 32) := by rw [cell_of_row w L 2 _ _ (0, 0) h.l]; rfl
  clear h
  go_enter Tryz.func244, Tryz.ntmps244
  go_wp2_with fail
  go_ret
  exact ⟨rfl, rfl⟩
set_option maxRecDepth 100000 in
set_option maxHeartbeats 400000 in
theorem jright0_is (h : FSw w B F D L a) : Calls Tryz.prog 177 #[.pointer (some ⟨L, 0, none⟩), .slice none 0 0] w fun e w' => e = .returned (.int .i64 0) ∧ Below w.heap.size w w' := by
  have HRM := Lib.hid (room0_is h)
  have hmm := @run_makeMap Tryz.prog
  have HB := Lib.hid (Go.Joins.below_alloc1 w (.map #[] 0))
  clear h
  go_enter Tryz.func177, Tryz.ntmps177
  go_wp2_with (go_at_call 244; refine HRM.out.mono ?_; rintro e1 w1 ⟨rfl, rfl⟩)
  refine wp_loop_rounds 1 ?_
  rw [rounds_succ]
  go_wp2_with fail
  go_ret
  exact ⟨rfl, HB.out⟩
set_option maxRecDepth 100000 in
set_option maxHeartbeats 400000 in
theorem commit0_is (h : FSw w B F D L a) (hd : Dk w D sb nb wv m 64 s f) : Calls Tryz.prog 95 #[.pointer (some ⟨L, 0, none⟩), .slice none 0 0] w fun e w' => e = .returned (.int .i64 0) ∧ Dk w' D sb nb (.slice none 0 0) 0 64 f f ∧ Upd (fun k => k = D ∨ k = sb) w w' := by
  have HJR := Lib.hid (jright0_is h)
  have HD := Lib.hid hd
  have HFS := Lib.hid h
  clear h hd
  go_enter Tryz.func95, Tryz.ntmps95
  go_upto_region 4 with (go_at_call 177; refine HJR.out.mono ?_; rintro e1 w1 ⟨rfl, hb1⟩)
  have c0 : w1.cell? ⟨L, 0, none⟩ = some (.pointer (some ⟨D, 0, none⟩)) := by rw [cell_of_row w1 L 0 _ _ (0, 0) (HFS.out.keep hb1).l]; rfl
  have HFL := Lib.hid (flush_is (HD.out.keep hb1))
  have HB1 := Lib.hid hb1
  clear hb1 HJR HD HFS
  go_wp2_with (go_at_call 79; refine HFL.out.mono ?_; rintro e2 w2 ⟨rfl, hd2, hu2⟩; have HD2 := Lib.hid hd2; have HU2 := Lib.hid hu2; clear hd2 hu2)
  go_ret
  exact ⟨rfl, HD2.out, (Upd.below HB1.out).trans HU2.out⟩
theorem Dk.set {i : Nat} (h : Dk w D sb nb (.slice none 0 0) 0 64 s f) {x : Value} {F : Nat} (h1 : F ≠ D) (h2 : F ≠ sb) (h3 : F ≠ nb) : Dk (w.setCell ⟨F, i, none⟩ x) D sb nb (.slice none 0 0) 0 64 s f := by
  have u : Upd (fun k => k = F) w (w.setCell ⟨F, i, none⟩ x) := Upd.set w x rfl
  exact ⟨set_blk (Ne.symm h1) h.c0, set_blk (Ne.symm h1) h.c1, set_blk (Ne.symm h1) h.c2, set_blk (Ne.symm h1) h.c3, fun j => by rw [World.frozen?_setCell]; exact h.fz j, Nat.lt_of_lt_of_le h.lt u.size, h.sB.upd u (Ne.symm h2), h.nB.upd u (Ne.symm h3), h.ls, h.lf, ⟨[], World.ownsRow_nil _ _ _ _⟩, h.n1, h.n2, h.n3, by simp [Value.ownBlock], by simp [Value.ownBlock], by simp [Value.ownBlock], h.S0, h.S1⟩
set_option maxRecDepth 100000 in
set_option maxHeartbeats 400000 in
theorem sync0_is (h : FSw w B F D L a) (hd : Dk w D sb nb wv m 64 s f) (hDB : D < B) (hsB : sb < B) (hnB : nb < B) : Calls Tryz.prog 32 #[.pointer (some ⟨F, 0, none⟩)] w fun e w' => e = .returned (.int .i64 0) ∧ Dk w' D sb nb (.slice none 0 0) 0 64 f f ∧ Upd (fun k => k = D ∨ k = sb ∨ k = F) w w' := by
  have hmm := @run_makeMap Tryz.prog
  have fl : ∀ (w : World), FSw w B F D L a → w.cell? ⟨F, 1, none⟩ = some (.pointer (some ⟨L, 0, none⟩)) := fun w h => by
    obtain ⟨z, n, c, b, hF⟩ := h.f
    rw [cell_of_row _ F 1 _ _ (0, 0) hF, fsA_get1]
  have c1 := fl w h
  have hdr := Below.refl w.heap.size w
  have HW := Lib.hid (writes0_is (h.keep hdr.drew))
  have HFS := Lib.hid h
  have HD := Lib.hid hd
  have HFL := Lib.hid fl
  clear fl hdr h hd
  go_enter Tryz.func32, Tryz.ntmps32
  go_upto_region 1 with fail
  go_region_held3 (fun wx => wx.cell? ⟨F, 1, none⟩ = some (.pointer (some ⟨L, 0, none⟩))) (first | assumption | exact hS2 | exact hS3)
    (first | ((go_at_call 96; (with_reducible refine HW.out.mono ?_); rintro e2 w2 ⟨rfl, hb2⟩; have hF2 := HFS.out.keep ((Below.refl w.heap.size w).drew.trans hb2); have hD2 := HD.out.keep ((Below.refl w.heap.size w).drew.trans hb2); have hS2 := HFL.out w2 hF2; have HC := Lib.hid (commit0_is hF2 hD2); have HF2 := Lib.hid hF2; have HB2 := Lib.hid ((Below.refl w.heap.size w).drew.trans hb2); clear hb2 hF2 hD2)) | ((go_at_call 95; refine HC.out.mono ?_; rintro e3 w3 ⟨rfl, hd3, hu3⟩; have HD3 := Lib.hid hd3; have HU3 := Lib.hid hu3; have hS3 : w3.cell? ⟨F, 1, none⟩ = some (.pointer (some ⟨L, 0, none⟩)) := (hu3.cell (Array.getElem?_eq_some_iff.1 HF2.out.f.choose_spec.choose_spec.choose_spec.choose_spec).1 (by have := HF2.out.f0; omega)).trans (HFL.out w2 HF2.out); clear hd3 hu3)))
  all_goals
    obtain ⟨z, n, c, b, hF⟩ := HF2.out.f
    have hr2 : Row w2 F 189 (fsA (.pointer (some ⟨D, 0, none⟩)) (.pointer (some ⟨L, 0, none⟩)) (.slice z n c) a b) := hF
    have hr3 := hr2.upd HU3.out (by have := HF2.out.f0; omega)
    have hr4 := hr3.alloc (.map #[] 0)
    have c5 : (w3.alloc (.map #[] 0)).cell? ⟨F, 196, none⟩ = some (.map (some a)) := by rw [hr4.cell, fsA_get5]
    have f5 := hr4.fz 196
    have d5 : w3.cell? ⟨F, 196, none⟩ = some (.map (some a)) := by rw [hr3.cell, fsA_get5]
    have g5 := hr3.fz 196
    have HD5 := Lib.hid (HD3.out.keep (Go.Joins.below_alloc1 w3 (.map #[] 0)))
    have HFD : Hid (F ≠ D ∧ F ≠ sb ∧ F ≠ nb) := Lib.hid (by have := HF2.out.f0; omega)
    clear hF hr2 hr3 hr4 c1 hS2 hS3
    go_wp2_with fail
    go_ret
    refine ⟨rfl, HD5.out.set HFD.out.1 HFD.out.2.1 HFD.out.2.2, ?_⟩
    exact (((Upd.below HB2.out).trans (HU3.out.mono (fun i _ e => by rcases e with e | e; exact .inl e; exact .inr (.inl e)))).trans (Upd.alloc w3 (.map #[] 0))).trans (Upd.set _ _ (.inr (.inr rfl)))
end
end Go.Proofs.YtnmlapiekfkbaaaGreatDoor
namespace Go.Proofs.YtnmlapiekfkbaaaGreatDoor
open Go.RowKit
set_option linter.unusedVariables false
set_option linter.unusedSimpArgs false
set_option maxRecDepth 100000 in
set_option maxHeartbeats 1000000 in
theorem make_is (w : World) : Calls Tryz.prog 10 #[.int .i64 64, .slice none 0 0] w fun e w' => ∃ D sb nb, e = .returned (.tuple #[.pointer (some ⟨D, 0, none⟩), .int .i64 0]) ∧ Dk w' D sb nb (.slice none 0 0) 0 64 fmtL fmtL ∧ w.heap.size ≤ D ∧ w.heap.size ≤ sb ∧ w.heap.size ≤ nb ∧ Below w.heap.size w w' := by
  have HN := Lib.hid (dnew_is w)
  go_enter Tryz.func10, Tryz.ntmps10
  go_upto_region 4 with (go_at_call 28; refine HN.out.mono ?_; rintro e1 w1 ⟨D, sb, nb, rfl, hd1, l1, l2, l3, hb1⟩)
  have HF := Lib.hid (format_is hd1)
  have HB1 := Lib.hid hb1
  have HL := Lib.hid (And.intro l1 (And.intro l2 l3))
  clear hd1 l1 l2 l3 hb1 HN
  go_upto_region 7 with (go_at_call 29; refine HF.out.mono ?_; rintro e2 w2 ⟨rfl, hd2, hu2⟩)
  have HD2 := Lib.hid hd2
  have HB2 := Lib.hid (HB1.out.trans (hu2.toBelow HB1.out.size (fun k hk e => by have := HL.out; omega)))
  have HM := Lib.hid (mount_is hd2 fmt_is.1)
  have HLT := Lib.hid (And.intro hd2.lt (And.intro hd2.sB.lt hd2.nB.lt))
  clear hd2 hu2 HF HB1
  go_upto_region 10 with (go_at_call 30; refine HM.out.mono ?_; rintro e3 w3 ⟨F, L, a, rfl, hf3, hb3⟩)
  have HD3 := Lib.hid (HD2.out.keep hb3)
  have HB3 := Lib.hid (HB2.out.trans (hb3.mono HB2.out.size))
  have HS := Lib.hid (sync0_is hf3 HD3.out HLT.out.1 HLT.out.2.1 HLT.out.2.2)
  have HF0 := Lib.hid (Nat.le_trans HB2.out.size hf3.f0)
  clear hb3 hf3 HM HD2 HB2
  go_wp2_with fail
  refine wp_loop_rounds 1 ?_
  rw [rounds_succ]
  go_wp2_with (go_at_call 32; refine HS.out.mono ?_; rintro e4 w4 ⟨rfl, hd4, hu4⟩; have HD4 := Lib.hid hd4; have HB4 := Lib.hid (HB3.out.trans (hu4.toBelow HB3.out.size (fun k hk e => by have := HL.out; have := HF0.out; omega))); clear hd4 hu4)
  go_ret2
  exact ⟨_, _, _, rfl, HD4.out, HL.out.1, HL.out.2.1, HL.out.2.2, HB4.out⟩
end Go.Proofs.YtnmlapiekfkbaaaGreatDoor
namespace Go.Proofs.YtnmlapiekfkbaaaGreatDoor
open Go.RowKit
set_option linter.unusedVariables false
set_option linter.unusedSimpArgs false
def kerA (c : Nat → Value) : Array Value := Array.ofFn (n := 655) (fun j => c j.val)
def upV (c : Nat → Value) (i : Nat) (v : Value) : Nat → Value := fun j => if j = i then v else c j
noncomputable def kz (j : Nat) : Value := (Tryz.zeroCells76[j]?).getD undef
theorem kerA_size (c) : (kerA c).size = 655 := by simp [kerA]
theorem kerA_get (c) {j : Nat} (h : j < 655) : (kerA c)[j]? = some (c j) := by simp [kerA, h]
theorem kerA_up (c) {i : Nat} (h : i < 655) (v : Value) : (kerA c).setIfInBounds i v = kerA (upV c i v) := by
  apply Array.ext_getElem?
  intro j
  rw [Array.getElem?_setIfInBounds]
  by_cases hj : j < 655
  · rw [kerA_get _ hj, kerA_get _ hj]
    unfold upV
    by_cases e : j = i
    · subst e; rw [if_pos rfl, if_pos rfl, if_pos (by rw [kerA_size]; exact h)]
    · rw [if_neg (fun q => e q.symm), if_neg e]
  · rw [if_neg (by omega), Array.getElem?_eq_none (by rw [kerA_size]; omega), Array.getElem?_eq_none (by rw [kerA_size]; omega)]
theorem kz_size : Tryz.zeroCells76.size = 655 := by kernel_rfl
theorem kerA_kz : kerA kz = Tryz.zeroCells76 := by
  apply Array.ext_getElem?
  intro j
  by_cases hj : j < 655
  · rw [kerA_get _ hj]
    unfold kz
    rw [Array.getElem?_eq_getElem (by rw [kz_size]; exact hj)]
    rfl
  · rw [Array.getElem?_eq_none (by rw [kerA_size]; omega), Array.getElem?_eq_none (by rw [kz_size]; omega)]
theorem bd_ker (ps : Array (Nat × Value)) : Instr.build 76 ps = bdR 76 ps := rfl
theorem bd_ker_run {e : Int} (w : World) (a b c d : Option Addr) : (bdR 76 #[(0, .int .i64 e), (3, .pointer a), (5, .pointer b), (6, .pointer c), (7, .pointer d)]).run Tryz.prog w = .ok (.agg (((((Tryz.zeroCells76.setIfInBounds 0 (.int .i64 e)).setIfInBounds 3 (.pointer a)).setIfInBounds 5 (.pointer b)).setIfInBounds 6 (.pointer c)).setIfInBounds 7 (.pointer d))) w := by kernel_rfl
theorem ker0 {e : Int} (a b c d : Option Addr) : ((((Tryz.zeroCells76.setIfInBounds 0 (.int .i64 e)).setIfInBounds 3 (.pointer a)).setIfInBounds 5 (.pointer b)).setIfInBounds 6 (.pointer c)).setIfInBounds 7 (.pointer d) = kerA (upV (upV (upV (upV (upV kz 0 (.int .i64 e)) 3 (.pointer a)) 5 (.pointer b)) 6 (.pointer c)) 7 (.pointer d)) := by
  rw [← kerA_kz, kerA_up _ (by decide), kerA_up _ (by decide), kerA_up _ (by decide), kerA_up _ (by decide), kerA_up _ (by decide)]
/-- the kernel's block -/
def KR (w : World) (K : Nat) (c : Nat → Value) : Prop := Row w K 76 (kerA c)
section
variable {w w' : World} {K : Nat} {c : Nat → Value}
theorem KR.cell (h : KR w K c) {j : Nat} (hj : j < 655) : w.cell? ⟨K, j, none⟩ = some (c j) := by rw [Row.cell h, kerA_get _ hj]
theorem KR.fz (h : KR w K c) (j : Nat) : w.frozen? ⟨K, j, none⟩ = false := Row.fz h j
theorem KR.keep (h : KR w K c) (hb : Below w.heap.size w w') : KR w' K c := Row.keep h hb
theorem KR.upd {S : Nat → Prop} (h : KR w K c) (hu : Upd S w w') (hn : ¬ S K) : KR w' K c := Row.upd h hu hn
theorem KR.kept {row : Option Nat} (h : KR w K c) (hg : w.grownBy w' row) (hn : some K ≠ row) : KR w' K c := Row.kept h hg hn
theorem KR.set (h : KR w K c) {i : Nat} (hi : i < 655) (v : Value) : KR (w.setCell ⟨K, i, none⟩ v) K (upV c i v) := by
  unfold KR
  rw [Row.setCell h, kerA_up _ hi]
  exact Row.setRow h _
theorem KR.lt (h : KR w K c) : K < w.heap.size := Row.lt h
end
end Go.Proofs.YtnmlapiekfkbaaaGreatDoor
