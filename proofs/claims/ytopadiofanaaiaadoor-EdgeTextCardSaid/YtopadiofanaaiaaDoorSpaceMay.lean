/- The walk of space's may. -/
import Derived.Test.YtopadiofanaaiaaDoorSpaceAsk
namespace Go.Proofs.YtopadiofanaaiaaDoor
open Go.RowKit Go.Maps
set_option linter.unusedVariables false
set_option linter.unusedSimpArgs false
section
variable {Z : Nat} {tag : Nat → Nat} {w : World} {M so im : Nat} {pv : Value} {pg : Nat → Nat} {np : Nat} {first : Int} {dt : Nat → Nat → Int}
theorem Mem.at (h : Mem Z tag w M so im pv pg np first dt) {k : Int} (h0 : 0 ≤ first) (h1 : first ≤ k) (h2 : k < first + np) (h3 : k < 64) : (Instr.lookup 42 (.map (some im)) (.int .i64 k) true).run Tryd.prog w = .ok (.tuple #[.agg #[.pointer (some ⟨pg (k - first).toNat, 0, none⟩), .int .i64 3], .bool true]) w := by
  have := h.sm.look_ok (k := k) (wf_i64 (by omega) (by omega))
  rw [if_pos ⟨h1, h2⟩] at this
  exact this
theorem Mem.at1 (h : Mem Z tag w M so im pv pg np first dt) {k : Int} (h0 : 0 ≤ first) (h1 : first ≤ k) (h2 : k < first + np) (h3 : k < 64) : (Instr.lookup 42 (.map (some im)) (.int .i64 k) false).run Tryd.prog w = .ok (.agg #[.pointer (some ⟨pg (k - first).toNat, 0, none⟩), .int .i64 3]) w := by
  have := h.sm.look (k := k) (wf_i64 (by omega) (by omega))
  rw [if_pos ⟨h1, h2⟩] at this
  exact this
theorem Mem.no (h : Mem Z tag w M so im pv pg np first dt) {k : Int} (h0 : 0 ≤ k) (h3 : k < 64) (h1 : ¬ (first ≤ k ∧ k < first + np)) : (Instr.lookup 42 (.map (some im)) (.int .i64 k) true).run Tryd.prog w = .ok (.tuple #[.agg #[.pointer none, .int .i64 0], .bool false]) w := by
  have := h.sm.look_ok (k := k) (wf_i64 (by omega) (by omega))
  rw [if_neg h1] at this
  exact this
theorem field46 (x y : Value) (w : World) : (Instr.field 46 (.agg #[x, y]) 0).run Tryd.prog w = .ok x w := by kernel_rfl
theorem tdiv16 {x : Int} (h : 0 ≤ x) : x.tdiv 16 = x / 16 := Int.tdiv_eq_ediv_of_nonneg h
set_option maxRecDepth 100000 in
set_option maxHeartbeats 400000 in
theorem may_is (h : Mem Z tag w M so im pv pg np first dt) {ad n wt : Int} (hf : 0 ≤ first) (hn : 1 ≤ n) (hn' : n ≤ 256) (ha : 0 ≤ ad) (ha' : ad + n ≤ 1024) (hlo : first ≤ ad / 16) (hhi : (ad + n - 1) / 16 < first + np) (hw : wt = 1 ∨ wt = 2) : Calls Tryd.prog 17 #[.pointer (some ⟨M, 0, none⟩), .int .i64 1, .int .i64 ad, .int .i64 n, .int .i64 wt] w fun e w' => e = .returned (.bool true) ∧ Below w.heap.size w w' := by
  have HM := Lib.hid h
  have i0 : ¬ ad < 0 := by omega
  have i1 : ¬ 1024 - n < ad := by omega
  have i2 : (n == 0) = false := by simp; omega
  have y0 : IntKind.i64.wrap (1024 - n) = 1024 - n := IntWalk.i64_in _ (by omega)
  have y1 : IntKind.i64.wrap (ad + n) = ad + n := IntWalk.i64_in _ (by omega)
  have y2 : IntKind.i64.wrap (ad + n - 1) = ad + n - 1 := IntWalk.i64_in _ (by omega)
  have q0 := tdiv16 ha
  have q1 := tdiv16 (show 0 ≤ ad + n - 1 by omega)
  generalize hlo' : ad / 16 = lo at *
  generalize hhi' : (ad + n - 1) / 16 = hi at *
  have hl0 : 0 ≤ lo := by omega
  have hh : hi < 64 := by omega
  have hlh : lo ≤ hi := by omega
  have y3 : IntKind.i64.wrap lo = lo := IntWalk.i64_in _ (by omega)
  have y4 : IntKind.i64.wrap hi = hi := IntWalk.i64_in _ (by omega)
  clear h hlo' hhi'
  go_enter Tryd.func17, Tryd.ntmps17
  go_wp2_with fail
  go_loopw [11] (fun kv wr => ∃ k : Int, lo ≤ k ∧ k ≤ hi + 1 ∧ kv = .int .i64 k ∧ Hid (Below w.heap.size w wr)) (fun kv _ => (hi + 1 - intOf kv).toNat)
  case atStart => exact ⟨lo, Int.le_refl _, by omega, rfl, Lib.hid (Below.refl _ _)⟩
  case round =>
    obtain ⟨k, hk0, hk1, rfl, HB⟩ := hrel
    by_cases hk : k ≤ hi
    · have hm := HM.out.keep HB.out
      have m4 := hm.m4
      have l1 := hm.one
      have l2 := hm.at hf (show first ≤ k by omega) (by omega) (by omega)
      have y5 : IntKind.i64.wrap (k + 1) = k + 1 := IntWalk.i64_in _ (by omega)
      generalize pg (k - first).toNat = g at *
      clear hm
      rcases hw with rfl | rfl
      · go_wp2_with fail
        go_roundw
        case rel => exact ⟨k + 1, by omega, by omega, rfl, Lib.hid (HB.out.alloc HB.out.size _)⟩
        case measure => simp [intOf]; omega
      · go_wp2_with fail
        go_roundw
        case rel => exact ⟨k + 1, by omega, by omega, rfl, Lib.hid (HB.out.alloc HB.out.size _)⟩
        case measure => simp [intOf]; omega
    · go_wp2_with fail
      go_ret
      exact ⟨rfl, HB.out⟩
set_option maxRecDepth 100000 in
set_option maxHeartbeats 400000 in
theorem may_no (h : Mem Z tag w M so im pv pg np first dt) {ad wt : Int} (ha : 0 ≤ ad) (ha' : ad < 1024) (hno : ¬ (first ≤ ad / 16 ∧ ad / 16 < first + np)) : Calls Tryd.prog 17 #[.pointer (some ⟨M, 0, none⟩), .int .i64 1, .int .i64 ad, .int .i64 1, .int .i64 wt] w fun e w' => e = .returned (.bool false) ∧ Below w.heap.size w w' := by
  have m4 := h.m4
  have l1 := h.one
  have i0 : ¬ ad < 0 := by omega
  have i1 : ¬ 1023 < ad := by omega
  have y1 : IntKind.i64.wrap (ad + 1) = ad + 1 := IntWalk.i64_in _ (by omega)
  have y2 : IntKind.i64.wrap (ad + 1 - 1) = ad := by rw [IntWalk.i64_in _ (by omega)]; omega
  have q0 := tdiv16 ha
  have l2 := h.no (k := ad / 16) (by omega) (by omega) hno
  generalize hlo' : ad / 16 = lo at *
  have y3 : IntKind.i64.wrap lo = lo := IntWalk.i64_in _ (by omega)
  have HB := Lib.hid (Go.Joins.below_alloc1 w (.cells #[.pointer none, .int .i64 0] 46))
  clear h hlo'
  go_enter Tryd.func17, Tryd.ntmps17
  go_wp2_with fail
  refine wp_loop_rounds 1 ?_
  rw [rounds_succ]
  go_wp2_with fail
  go_ret
  exact ⟨rfl, HB.out⟩
set_option maxRecDepth 100000 in
set_option maxHeartbeats 400000 in
theorem shared_is (h : Mem Z tag w M so im pv pg np first dt) {ad n : Int} (hf : 0 ≤ first) (hn : 1 ≤ n) (hn' : n ≤ 256) (ha : 0 ≤ ad) (ha' : ad + n ≤ 1024) (hlo : first ≤ ad / 16) (hhi : (ad + n - 1) / 16 < first + np) : Calls Tryd.prog 29 #[.pointer (some ⟨M, 0, none⟩), .int .i64 1, .int .i64 ad, .int .i64 n] w fun e w' => e = .returned (.int .i64 0) ∧ w = w' := by
  have HM := Lib.hid h
  have i2 : (0 : Int) < n := by omega
  have y1 : IntKind.i64.wrap (ad + n) = ad + n := IntWalk.i64_in _ (by omega)
  have y2 : IntKind.i64.wrap (ad + n - 1) = ad + n - 1 := IntWalk.i64_in _ (by omega)
  have q0 := tdiv16 ha
  have q1 := tdiv16 (show 0 ≤ ad + n - 1 by omega)
  generalize hlo' : ad / 16 = lo at *
  generalize hhi' : (ad + n - 1) / 16 = hi at *
  have hl0 : 0 ≤ lo := by omega
  have hh : hi < 64 := by omega
  have hlh : lo ≤ hi := by omega
  have y3 : IntKind.i64.wrap lo = lo := IntWalk.i64_in _ (by omega)
  have y4 : IntKind.i64.wrap hi = hi := IntWalk.i64_in _ (by omega)
  clear h hlo' hhi'
  go_enter Tryd.func29, Tryd.ntmps29
  go_wp2_with fail
  go_loopw [9, 10] (fun nv kv wr => ∃ k : Int, lo ≤ k ∧ k ≤ hi + 1 ∧ nv = .int .i64 0 ∧ kv = .int .i64 k ∧ w = wr) (fun _ kv _ => (hi + 1 - intOf kv).toNat)
  case atStart => exact ⟨lo, Int.le_refl _, by omega, rfl, rfl, rfl⟩
  case round =>
    obtain ⟨k, hk0, hk1, rfl, rfl, rfl⟩ := hrel
    by_cases hk : k ≤ hi
    · have m4 := HM.out.m4
      have l1 := HM.out.one
      have l2 := HM.out.at1 hf (show first ≤ k by omega) (by omega) (by omega)
      have fd := field46 (.pointer (some ⟨pg (k - first).toNat, 0, none⟩)) (.int .i64 3) w
      have us := (HM.out.pgs (k - first).toNat (by omega)).us
      have y5 : IntKind.i64.wrap (k + 1) = k + 1 := IntWalk.i64_in _ (by omega)
      generalize pg (k - first).toNat = g at *
      go_wp2_with fail
      go_roundw
      case rel => exact ⟨k + 1, by omega, by omega, rfl, rfl, trivial⟩
      case measure => simp [intOf]; omega
    · go_wp2_with fail
      go_ret
      exact ⟨rfl, rfl⟩
end
end Go.Proofs.YtopadiofanaaiaaDoor
