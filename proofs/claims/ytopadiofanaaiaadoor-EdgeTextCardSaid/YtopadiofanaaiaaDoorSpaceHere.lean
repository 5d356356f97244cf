/- The walk of space's here: n pages that are in frames, and one more that is not. -/
import Derived.Test.YtopadiofanaaiaaDoorSpaceNew
namespace Go.Proofs.YtopadiofanaaiaaDoor
open Go.RowKit Go.Maps
set_option linter.unusedVariables false
set_option linter.unusedSimpArgs false
set_option maxRecDepth 100000 in
set_option maxHeartbeats 400000 in
theorem here_is {w : World} {M : Nat} {pv : Value} {g : Nat → Nat} {n : Nat} (m3 : w.cell? ⟨M, 3, none⟩ = some pv) (ps : w.ownsRow 0 44 1 pv (n + 1) ((List.range (n + 1)).map fun i => Value.pointer (some ⟨g i, 0, none⟩))) (hh : ∀ i, i < n → w.cell? ⟨g i, 17, none⟩ = some (.bool true)) (hl : w.cell? ⟨g n, 17, none⟩ = some (.bool false)) (hn : n ≤ 64) : Calls Tryd.prog 32 #[.pointer (some ⟨M, 0, none⟩)] w fun e w' => e = .returned (.int .i64 n) ∧ w = w' := by
  obtain ⟨a0, cap, rfl⟩ := own_form ps
  obtain ⟨pb, rfl, -, -, h3, h4⟩ := own_block ps (by omega)
  have HC := Lib.hid (fun i (hi : i < n + 1) => show w.cell? ⟨pb, i, none⟩ = some (.pointer (some ⟨g i, 0, none⟩)) by
    have := ps.cells (g := pb) rfl i (.pointer (some ⟨g i, 0, none⟩)) (by simp [hi])
    rw [Addr.add_lit, Nat.zero_add] at this
    exact this)
  have hmx : (cap : Int) ≤ 9223372036854775807 := by unfold maxLen at h4; omega
  have HH := Lib.hid hh
  have HL := Lib.hid hl
  clear ps hh hl h4
  go_enter Tryd.func32, Tryd.ntmps32
  go_wp2_with fail
  go_loopw [3, 11] (fun nv kv wr => ∃ k : Nat, k ≤ n + 1 ∧ kv = .int .i64 k ∧ nv = .int .i64 ((min k n : Nat) : Int) ∧ w = wr) (fun _ kv _ => n + 1 - (intOf kv).toNat)
  case atStart => exact ⟨0, Nat.zero_le _, rfl, by simp, rfl⟩
  case round =>
    obtain ⟨k, hk0, rfl, rfl, rfl⟩ := hrel
    by_cases hk : k < n + 1
    · have i1 : (k : Int) < (n : Int) + 1 := by omega
      have e0 := HC.out k hk
      have y5 : IntKind.i64.wrap ((k : Int) + 1) = k + 1 := IntWalk.i64_in _ (by omega)
      by_cases hkn : k < n
      · have e1 := HH.out k hkn
        rw [Nat.min_eq_left (by omega)]
        generalize g k = b at *
        go_wp2_with fail
        go_roundw
        case rel => exact ⟨k + 1, by omega, by go_num, by rw [Nat.min_eq_left (by omega)]; go_num, trivial⟩
        case measure => simp [intOf]; omega
      · obtain rfl : k = n := by omega
        have e1 := HL.out
        rw [Nat.min_self]
        generalize g k = b at *
        go_wp2_with fail
        go_roundw
        case rel => exact ⟨k + 1, by omega, by go_num, by rw [Nat.min_eq_right (by omega)], trivial⟩
        case measure => simp [intOf]
    · obtain rfl : k = n + 1 := by omega
      rw [Nat.min_eq_right (by omega)]
      go_wp2_with fail
      go_ret
      exact ⟨rfl, rfl⟩
end Go.Proofs.YtopadiofanaaiaaDoor
