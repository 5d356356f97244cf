/- The walks of space's ask, span, room. -/
import Derived.Test.YtopadiofanaaiaaDoorSpaceMem
import Derived.BigQuiet
namespace Go.Proofs.YtopadiofanaaiaaDoor
open Go.RowKit Go.Maps
set_option linter.unusedVariables false
set_option linter.unusedSimpArgs false
section
variable {Z : Nat} {tag : Nat → Nat} {w : World} {M so im : Nat} {pv : Value} {pg : Nat → Nat} {np : Nat} {first : Int} {dt : Nat → Nat → Int}
theorem same_upd (dt : Nat → Nat → Int) (i : Nat) : (fun k => if k = i then dt i else dt k) = dt := by
  funext k
  by_cases h : k = i
  · rw [if_pos h, h]
  · rw [if_neg h]
set_option maxRecDepth 100000 in
theorem ask_is (h : Mem Z tag w M so im pv pg np first dt) {i : Nat} (hi : i < np) : Calls Tryd.prog 22 #[.pointer (some ⟨M, 0, none⟩), .pointer (some ⟨pg i, 0, none⟩)] w fun e w' => e = .returned (.tuple #[]) ∧ Mem Z tag w' M so im pv pg np first dt ∧ Turn tag w w' := by
  have HM := Lib.hid h
  obtain ⟨ck, c2⟩ := h.m2
  have hz := h.mz
  have hp := h.pgs i hi
  obtain ⟨ak, q18⟩ := hp.ak
  have q17 := hp.hr
  have hpz := hp.fz
  have hne : M ≠ pg i := fun e => by have := h.tM; have := h.tpg i hi; rw [← e] at this; omega
  have HR := Lib.hid (fun x y => (h.clock x).page hi (grown_set _ (pg i) 18 (.int .i64 y)) (((h.clock x).pgs i hi).asked y))
  have HT := Lib.hid (fun x y => (Turn.of_grown (tag := tag) (grown_set w M 2 (.int .i64 x)) (by rw [h.tM]; decide)).trans (Turn.of_grown (grown_set (w.setCell ⟨M, 2, none⟩ (.int .i64 x)) (pg i) 18 (.int .i64 y)) (by rw [h.tpg i hi]; omega)))
  generalize pg i = g at *
  have r17 : ∀ x, (w.setCell ⟨M, 2, none⟩ x).cell? ⟨g, 17, none⟩ = some (.bool true) := fun x => (grown_cell (grown_set w M 2 x) hp.lt (by intro e; injection e with e; exact hne e.symm)).trans q17
  have r18 : ∀ x, (w.setCell ⟨M, 2, none⟩ x).cell? ⟨g, 18, none⟩ = some (.int .i64 ak) := fun x => (grown_cell (grown_set w M 2 x) hp.lt (by intro e; injection e with e; exact hne e.symm)).trans q18
  have rz : ∀ x j, (w.setCell ⟨M, 2, none⟩ x).frozen? ⟨g, j, none⟩ = false := fun x j => by rw [World.frozen?_setCell]; exact hpz j
  clear h hp
  go_enter Tryd.func22, Tryd.ntmps22
  go_wp2_with fail
  (try simp only [Exit.inBlock, Exit.then]); first | (refine bodyPost_ret (results_none rfl _ _ _) rfl ?_) | (refine bodyPost_end (results_none rfl _ _ _) rfl ?_)
  exact ⟨rfl, by have := HR.out (wrap64 (ck + 1)) (wrap64 (ck + 1)); rwa [same_upd] at this, HT.out _ _⟩
theorem Mem.one (h : Mem Z tag w M so im pv pg np first dt) : (Instr.lookup 38 (.map (some so)) (.int .i64 1) false).run Tryd.prog w = .ok (.map (some im)) w := h.om.look (by decide)
theorem not_nil (b : Nat) (w : World) : (binOp BinOp.eql 42 (.map (some b)) (.map none)).run Tryd.prog w = .ok (.bool false) w := by kernel_rfl
theorem is_nil (w : World) : (binOp BinOp.eql 42 (.map none) (.map none)).run Tryd.prog w = .ok (.bool true) w := by kernel_rfl
theorem wf_i64 {k : Int} (h0 : -9223372036854775808 ≤ k) (h1 : k ≤ 9223372036854775807) : (Lit.int .i64 k).wf = true := WalkArith.wf_i64 (by omega)
set_option maxRecDepth 100000 in
theorem span_is (h : Mem Z tag w M so im pv pg np first dt) {a n r : Int} (ha : 0 ≤ a) (ha' : a < 64) (hn : 1 ≤ n) (hn' : n ≤ 64 - a) (hr : 0 ≤ r) (hr' : r ≤ 7) : Calls Tryd.prog 13 #[.pointer (some ⟨M, 0, none⟩), .int .i64 1, .int .i64 a, .int .i64 n, .int .i64 r] w fun e w' => e = .returned (.int .i64 0) ∧ w = w' := by
  have m4 := h.m4
  have l1 := h.one
  have l2 := not_nil im w
  have i0 : ¬ a < 0 := by omega
  have i1 : ¬ (64 : Int) ≤ a := by omega
  have i2 : ¬ n < 1 := by omega
  have i3 : ¬ 64 - a < n := by omega
  have i4 : ¬ r < 0 := by omega
  have i5 : ¬ (7 : Int) < r := by omega
  have y0 : IntKind.i64.wrap (64 - a) = 64 - a := IntWalk.i64_in _ (by omega)
  clear h
  go_enter Tryd.func13, Tryd.ntmps13
  go_wp2_with fail
  go_ret
  exact ⟨rfl, rfl⟩
set_option maxRecDepth 100000 in
theorem room_is (h : Mem Z tag w M so im pv pg np first dt) (n : Int) (hnp : np ≤ 8) (hn : n ≤ 8 - (np : Int)) : Calls Tryd.prog 14 #[.pointer (some ⟨M, 0, none⟩), .int .i64 n] w fun e w' => e = .returned (.bool true) ∧ ∃ q, w' = w.drewN q := by
  have m0 := h.m0
  have m1 := h.m1
  have m3 := h.m3
  obtain ⟨a0, cap, rfl⟩ := own_form h.ps
  have y0 : IntKind.i64.wrap (8 - (np : Int)) = 8 - (np : Int) := IntWalk.i64_in _ (by omega)
  have hd : decide (n ≤ 8 - (np : Int)) = true := by simpa using hn
  clear h
  go_enter Tryd.func14, Tryd.ntmps14
  go_wp2_with fail
  go_quiet (fail)
  go_wp2_with fail
  go_ret
  exact ⟨rfl, _, rfl⟩
end
end Go.Proofs.YtopadiofanaaiaaDoor
