/- The walks of space's New and Make. -/
import Derived.Test.YtopadiofanaaiaaDoorSpaceText
namespace Go.Proofs.YtopadiofanaaiaaDoor
open Go.RowKit Go.Maps
set_option linter.unusedVariables false
set_option linter.unusedSimpArgs false
theorem grown_trans {a b c : World} {row : Option Nat} (h : a.grownBy b row) (k : b.grownBy c row) : a.grownBy c row := ⟨k.os.trans h.os, k.tape.trans h.tape, k.output.trans h.output, Nat.le_trans h.size k.size, fun i hi hne => (k.block i (Nat.lt_of_lt_of_le hi h.size) hne).trans (h.block i hi hne)⟩
set_option maxRecDepth 100000 in
set_option maxHeartbeats 400000 in
theorem new_is (w : World) : Calls Tryd.prog 4 #[.int .i64 8, .int .i64 0] w fun e w' => e = .returned (.tuple #[.pointer (some ⟨w.heap.size + 1, 0, none⟩), .int .i64 0]) ∧ w' = (w.alloc (.map #[] 0)).alloc (.cells #[.int .i64 8, .int .i64 0, .int .i64 0, .slice none 0 0, .map (some w.heap.size)] 41) := by
  have hmm := @run_makeMap Tryd.prog
  go_enter Tryd.func4, Tryd.ntmps4
  go_wp2_with fail
  go_ret2
  exact ⟨rfl, rfl⟩
set_option maxRecDepth 100000 in
set_option maxHeartbeats 400000 in
theorem make_is {w : World} {M so : Nat} (m4 : w.cell? ⟨M, 4, none⟩ = some (.map (some so))) (hM : M < w.heap.size) (om : OMap w so 0 (fun _ => none)) (hso : so < w.heap.size) : Calls Tryd.prog 5 #[.pointer (some ⟨M, 0, none⟩)] w fun e w' => e = .returned (.tuple #[.int .i64 1, .int .i64 0]) ∧ OMap w' so 1 (fun k => if k = 1 then some w.heap.size else none) ∧ IMap w' w.heap.size 0 (fun _ => none) ∧ w.grownBy w' (some so) := by
  have hmm := @run_makeMap Tryd.prog
  have l1 : (Instr.lookup 38 (.map (some so)) (.int .i64 1) false).run Tryd.prog w = .ok (.map none) w := om.look (by decide)
  have l2 := is_nil w
  have hg0 := World.grownBy_alloc w (.map #[] 0) none
  obtain ⟨w2, hup, om2, hg2⟩ := (om.kept hg0 (by simp)).put (k := 1) (by decide) (by unfold maxLen; omega) w.heap.size
  have hup : (Instr.mapUpdate 38 (.map (some so)) (.int .i64 1) (.map (some w.heap.size))).run Tryd.prog (w.alloc (.map #[] 0)) = .ok () w2 := hup
  have HI := Lib.hid ((IMap.made w).kept hg2 (by intro e; injection e with e; omega))
  have HG := Lib.hid (show w.grownBy w2 (some so) from grown_trans (World.grownBy_alloc w (.map #[] 0) (some so)) hg2)
  have HO := Lib.hid om2
  clear om om2 hg2 hg0
  go_enter Tryd.func5, Tryd.ntmps5
  go_wp2_with fail
  refine wp_loop_rounds 1 ?_
  rw [rounds_succ]
  go_wp2_with fail
  go_ret2
  exact ⟨rfl, HO.out, HI.out, HG.out⟩
end Go.Proofs.YtopadiofanaaiaaDoor
