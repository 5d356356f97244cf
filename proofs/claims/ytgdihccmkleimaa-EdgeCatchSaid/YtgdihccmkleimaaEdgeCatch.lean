/- The walk of ringkeep5.EdgeCatch. -/
import Derived.Test.YtgdihccmkleimaaEdgeWalk
import Derived.BigQuiet
import Derived.Deep.RegionHeld3
namespace Go.Proofs.Ytgdihccmkleimaa.EdgeLaw
open Go.RowKit
set_option linter.unusedVariables false

theorem keepC {w w' : World} {a : Addr} {v : Value} (hb : Below w.heap.size w w') (hc : w.cell? a = some v) : w'.cell? a = some v := by
  rw [hb.cell (World.block_lt_of_cell? w _ hc)]; exact hc

set_option maxRecDepth 100000 in
set_option maxHeartbeats 4000000 in
theorem edgecatch_any {w : World} {v : Value} {xs : List Int} (n k : Int) (hm : At (Value.int .i64) 0 w v xs) :
    Calls Try.prog 3 #[.int .i64 n, v, .int .i64 k] w fun e w' => e = .returned (.bool true) ∧ Below w.heap.size w w' := by
  obtain ⟨a, cap, rfl, hl, hcap, hm⟩ := hm
  have hmf : ∀ (fn : Fn) (first cap : Array Value) (w : World), (Instr.makeFunc fn first cap).run Try.prog w = .ok (.func fn first cap) w := fun _ _ _ _ => rfl
  obtain ⟨m, hm0⟩ : ∃ m, m = xs.length := ⟨_, rfl⟩
  rw [← hm0] at hl ⊢
  have h0 : (((w.alloc (.cells #[.int .i64 n] 3)).alloc (.cells #[.slice a m cap] 22)).alloc (.cells #[.int .i64 k] 3)).cell? ⟨w.heap.size, 0, none⟩ = some (.int .i64 n) := by simp [go_sem]
  have h1 : (((w.alloc (.cells #[.int .i64 n] 3)).alloc (.cells #[.slice a m cap] 22)).alloc (.cells #[.int .i64 k] 3)).cell? ⟨w.heap.size + 1, 0, none⟩ = some (.slice a m cap) := by simp [go_sem]
  have h2 : (((w.alloc (.cells #[.int .i64 n] 3)).alloc (.cells #[.slice a m cap] 22)).alloc (.cells #[.int .i64 k] 3)).cell? ⟨w.heap.size + 1 + 1, 0, none⟩ = some (.int .i64 k) := by simp [go_sem]
  have hA : Below w.heap.size w (((w.alloc (.cells #[.int .i64 n] 3)).alloc (.cells #[.slice a m cap] 22)).alloc (.cells #[.int .i64 k] 3)) := (Go.Joins.below_alloc2 _ _ _).alloc (by simp <;> omega) _
  have HM0 := Lib.hid hm0
  have HM := Lib.hid hm
  have H0 := Lib.hid h0
  have H1 := Lib.hid h1
  have H2 := Lib.hid h2
  have HA := Lib.hid hA
  clear hm hm0 h0 h1 h2 hA
  by_cases hin : 0 ≤ k ∧ k < m
  · obtain ⟨k, rfl⟩ : ∃ k' : Nat, k = k' := ⟨k.toNat, by omega⟩
    have hk : k < m := by omega
    clear hin
    rcases HM.out with hnil | ⟨b, off, rfl, hlt, hcell⟩
    · have := HM0.out
      rw [hnil] at this
      simp at this
      omega
    have hx := hcell k (by rw [← HM0.out]; exact hk)
    obtain ⟨x, hx0⟩ : ∃ x, x = xs.getD k 0 := ⟨_, rfl⟩
    rw [← hx0] at hx
    have HX := Lib.hid hx
    clear hcell hx hx0
    go_enter Try.func3, Try.ntmps3
    go_wp2_with fail
    refine (catch_one _).mono ?_
    rintro e w1 ⟨rfl, hb1⟩
    have hB1 := HA.out.trans (hb1.mono HA.out.size)
    have c0 := past (keepC hb1 H0.out) (cellsA 0 7 0)
    have c1 := past (keepC hb1 H1.out) (cellsA 0 7 0)
    have c2 := past (keepC hb1 H2.out) (cellsA 0 7 0)
    have hB2 : Below w.heap.size w (w1.alloc (cellsA 0 7 0)) := hB1.alloc hB1.size _
    have C0 := Lib.hid c0
    have C1 := Lib.hid c1
    have C2 := Lib.hid c2
    have HB2 := Lib.hid hB2
    clear hb1 hB1 c0 c1 c2 hB2
    unfold ans
    go_wp2_with fail
    refine (catch_in _ ⟨w.heap.size, 0, none⟩ ⟨w.heap.size + 1, 0, none⟩ ⟨w.heap.size + 1 + 1, 0, none⟩ n k m b off cap x C0.out C1.out C2.out hk (keepC HB2.out HX.out)).mono ?_
    rintro e w2 ⟨rfl, hb2⟩
    have c0 := past (keepC hb2 C0.out) (cellsA 0 n x)
    have c1 := past (keepC hb2 C1.out) (cellsA 0 n x)
    have c2 := past (keepC hb2 C2.out) (cellsA 0 n x)
    have cx := past (keepC hb2 (keepC HB2.out HX.out)) (cellsA 0 n x)
    have hB3 := HB2.out.trans (hb2.mono HB2.out.size)
    have HB3 := Lib.hid (hB3.alloc hB3.size (cellsA 0 n x))
    have hnn : (n == n) = true := by simp
    have hxx : (x == x) = true := by simp
    clear hb2 hB3
    unfold ans
    go_wp2
    go_quiet (fail)
    go_wp2
    go_ret
    exact ⟨rfl, below_drewN HB3.out _⟩
  · have hnil : a = none → m = 0 := by
      rintro rfl
      rcases HM.out with h | ⟨b, off, h, _⟩
      · rw [HM0.out, h]; rfl
      · cases h
    have HN := Lib.hid hnil
    have HO := Lib.hid (show k < 0 ∨ (m : Int) ≤ k by omega)
    have hcase : k < 0 ∨ (0 ≤ k ∧ (m : Int) ≤ k) := by omega
    clear hnil hin
    go_enter Try.func3, Try.ntmps3
    go_wp2_with fail
    refine (catch_one _).mono ?_
    rintro e w1 ⟨rfl, hb1⟩
    have hB1 := HA.out.trans (hb1.mono HA.out.size)
    have c0 := past (keepC hb1 H0.out) (cellsA 0 7 0)
    have c1 := past (keepC hb1 H1.out) (cellsA 0 7 0)
    have c2 := past (keepC hb1 H2.out) (cellsA 0 7 0)
    have hB2 : Below w.heap.size w (w1.alloc (cellsA 0 7 0)) := hB1.alloc hB1.size _
    have C0 := Lib.hid c0
    have C1 := Lib.hid c1
    have C2 := Lib.hid c2
    have HB2 := Lib.hid hB2
    clear hb1 hB1 c0 c1 c2 hB2
    unfold ans
    go_wp2_with fail
    refine (catch_out _ ⟨w.heap.size, 0, none⟩ ⟨w.heap.size + 1, 0, none⟩ ⟨w.heap.size + 1 + 1, 0, none⟩ n k m a cap C0.out C1.out C2.out HN.out HO.out).mono ?_
    rintro e w2 ⟨rfl, hb2⟩
    have c0 := past (keepC hb2 C0.out) (cellsA 23 0 0)
    have c1 := past (keepC hb2 C1.out) (cellsA 23 0 0)
    have c2 := past (keepC hb2 C2.out) (cellsA 23 0 0)
    have hB3 := HB2.out.trans (hb2.mono HB2.out.size)
    have HB3 := Lib.hid (hB3.alloc hB3.size (cellsA 23 0 0))
    clear hb2 hB3
    unfold ans
    rcases hcase with hh | hh
    all_goals
      go_wp2
      go_ret
      exact ⟨rfl, HB3.out⟩
end Go.Proofs.Ytgdihccmkleimaa.EdgeLaw
