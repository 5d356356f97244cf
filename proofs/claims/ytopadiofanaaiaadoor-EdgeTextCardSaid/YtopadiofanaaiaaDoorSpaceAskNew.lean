/- The walk of space's ask, of a page that is not in a frame, while frames are free. -/
import Derived.Test.YtopadiofanaaiaaDoorSpaceHere
namespace Go.Proofs.YtopadiofanaaiaaDoor
open Go.RowKit Go.Maps
set_option linter.unusedVariables false
set_option linter.unusedSimpArgs false
set_option maxRecDepth 100000 in
set_option maxHeartbeats 400000 in
theorem ask_new {w : World} {M g n : Nat} {ck ak : Int} (hn : n < 8) (hne : M ≠ g) (m0 : w.cell? ⟨M, 0, none⟩ = some (.int .i64 8)) (m2 : w.cell? ⟨M, 2, none⟩ = some (.int .i64 ck)) (mz : ∀ j, w.frozen? ⟨M, j, none⟩ = false) (q17 : w.cell? ⟨g, 17, none⟩ = some (.bool false)) (q18 : w.cell? ⟨g, 18, none⟩ = some (.int .i64 ak)) (gz : ∀ j, w.frozen? ⟨g, j, none⟩ = false) (hlt : g < w.heap.size) (hltM : M < w.heap.size)
    (hhe : ∀ x k, Calls Tryd.prog 32 #[.pointer (some ⟨M, 0, none⟩)] (((w.setCell ⟨M, 2, none⟩ (.int .i64 x)).setCell ⟨g, 18, none⟩ (.int .i64 x)).drewN k) fun e w' => e = .returned (.int .i64 n) ∧ w' = (((w.setCell ⟨M, 2, none⟩ (.int .i64 x)).setCell ⟨g, 18, none⟩ (.int .i64 x)).drewN k)) :
    Calls Tryd.prog 22 #[.pointer (some ⟨M, 0, none⟩), .pointer (some ⟨g, 0, none⟩)] w fun e w' => e = .returned (.tuple #[]) ∧ ∃ x q, w' = (((w.setCell ⟨M, 2, none⟩ (.int .i64 x)).setCell ⟨g, 18, none⟩ (.int .i64 x)).drewN q).setCell ⟨g, 17, none⟩ (.bool true) := by
  have neM : ∀ {x}, x = g → some x ≠ some M := fun e h => by injection h with h; exact hne (h.symm.trans e)
  have r17 : ∀ x, (w.setCell ⟨M, 2, none⟩ x).cell? ⟨g, 17, none⟩ = some (.bool false) := fun x => (grown_cell (grown_set w M 2 x) hlt (neM rfl)).trans q17
  have r18 : ∀ x, (w.setCell ⟨M, 2, none⟩ x).cell? ⟨g, 18, none⟩ = some (.int .i64 ak) := fun x => (grown_cell (grown_set w M 2 x) hlt (neM rfl)).trans q18
  have r0 : ∀ x y, ((w.setCell ⟨M, 2, none⟩ x).setCell ⟨g, 18, none⟩ y).cell? ⟨M, 0, none⟩ = some (.int .i64 8) := fun x y => (grown_cell (grown_set (w.setCell ⟨M, 2, none⟩ x) g 18 y) (by simpa [World.setCell] using hltM) (by intro h; injection h with h; exact hne h)).trans (set_other (by decide) m0)
  have rz : ∀ x j, (w.setCell ⟨M, 2, none⟩ x).frozen? ⟨g, j, none⟩ = false := fun x j => by rw [World.frozen?_setCell]; exact gz j
  have rz2 : ∀ x y j, ((w.setCell ⟨M, 2, none⟩ x).setCell ⟨g, 18, none⟩ y).frozen? ⟨g, j, none⟩ = false := fun x y j => by rw [World.frozen?_setCell]; exact rz x j
  have s17 : ∀ x y, ((w.setCell ⟨M, 2, none⟩ x).setCell ⟨g, 18, none⟩ y).cell? ⟨g, 17, none⟩ = some (.bool false) := fun x y => set_other (by decide) (r17 x)
  have HHE := Lib.hid hhe
  have i1 : ((n : Int) == 8) = false := by simp; omega
  clear hhe
  go_enter Tryd.func22, Tryd.ntmps22
  go_upto_region 3 with fail
  generalize hwx : (w.setCell ⟨M, 2, none⟩ (.int .i64 (wrap64 (ck + 1)))).setCell ⟨g, 18, none⟩ (.int .i64 (wrap64 (ck + 1))) = wx
  have HW := Lib.hid hwx
  have c0 : wx.cell? ⟨M, 0, none⟩ = some (.int .i64 8) := by rw [← hwx]; exact r0 _ _
  have c17 : wx.cell? ⟨g, 17, none⟩ = some (.bool false) := by rw [← hwx]; exact s17 _ _
  have z17 : ∀ j, wx.frozen? ⟨g, j, none⟩ = false := fun j => by rw [← hwx]; exact rz2 _ _ j
  have HMY : Hid (∀ k, Calls Tryd.prog 32 #[.pointer (some ⟨M, 0, none⟩)] (wx.drewN k) fun e w' => e = .returned (.int .i64 n) ∧ w' = wx.drewN k) := Lib.hid (fun k => by rw [← hwx]; exact HHE.out _ k)
  clear hwx r0 r17 r18 rz rz2 s17 q17 q18 gz m0 m2 mz HHE
  go_quiet (first | (go_at_call 32; refine Calls.quiet_of_same (HMY.out _)))
  go_wp2_with fail
  (try simp only [Exit.inBlock, Exit.then]); first | (refine bodyPost_ret (results_none rfl _ _ _) rfl ?_) | (refine bodyPost_end (results_none rfl _ _ _) rfl ?_)
  refine ⟨rfl, wrap64 (ck + 1), nq, ?_⟩
  rw [HW.out]
end Go.Proofs.YtopadiofanaaiaaDoor
