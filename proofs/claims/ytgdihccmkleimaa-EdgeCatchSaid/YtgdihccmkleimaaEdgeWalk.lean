/- The walks of edge.Catch and its closures, and of ringkeep5.EdgeCatch's closures. -/
import Derived.Test.YtgdihccmkleimaaBase
import Derived.Test.YtgdihccmkleimaaTab
import Derived.Test.YtgdihccmkleimaaCommon
import Derived.WalkSmall
import Derived.Tactics
import Derived.Tactics2
import Derived.Defers
import Derived.Recover
import Derived.Laws.Pointers
import Derived.RegionDies
import Derived.Laws.Panics
namespace Go.Proofs.Ytgdihccmkleimaa.EdgeLaw
open Go.RowKit
set_option linter.unusedVariables false

def ans (e a b : Int) : Value := .agg #[.int .i64 e, .int .i64 a, .int .i64 b, .slice none 0 0, .slice none 0 0, .int .i64 0, .int .i64 0, .int .i64 0, .int .i64 0, .int .i64 0, .int .i64 0]
abbrev cellsA (e a b : Int) : Obj := .cells #[.int .i64 e, .int .i64 a, .int .i64 b, .slice none 0 0, .slice none 0 0, .int .i64 0, .int .i64 0, .int .i64 0, .int .i64 0, .int .i64 0, .int .i64 0] 29
abbrev ansL : List Value := [.int .i64 23, .int .i64 0, .int .i64 0, .slice none 0 0, .slice none 0 0, .int .i64 0, .int .i64 0, .int .i64 0, .int .i64 0, .int .i64 0, .int .i64 0]
theorem one_any (w : World) : Calls Try.prog 16 #[] w fun e w' => e = .returned (ans 0 7 0) ∧ Below w.heap.size w w' := by
  go_enter Try.func16, Try.ntmps16
  go_wp2
  refine bodyPost_ret (v := ans 0 7 0) (by simp [results, Try.results16, go_sem, ans]) rfl ⟨rfl, ?_⟩
  exact (Below.refl _ _).alloc (Nat.le_refl _) _
theorem past {w : World} {p : Addr} {v : Value} (h : w.cell? p = some v) (o : Obj) : (w.alloc o).cell? p = some v := by
  rw [World.cell?_alloc_lt]
  · exact h
  · exact World.block_lt_of_cell? w _ h
theorem two_in (w : World) (p0 p1 p2 : Addr) (n : Int) (k m : Nat) (b off cap : Nat) (x : Int) (h0 : w.cell? p0 = some (.int .i64 n)) (h1 : w.cell? p1 = some (.slice (some ⟨b, off, none⟩) m cap)) (h2 : w.cell? p2 = some (.int .i64 k)) (hk : k < m) (hx : w.cell? ⟨b, off + k, none⟩ = some (.int .i64 x)) :
    Calls Try.prog 17 #[.pointer (some p0), .pointer (some p1), .pointer (some p2)] w fun e w' => e = .returned (ans 0 n x) ∧ Below w.heap.size w w' := by
  have q0 := past h0 (cellsA 0 0 0)
  have q1 := past h1 (cellsA 0 0 0)
  have q2 := past h2 (cellsA 0 0 0)
  have q3 := past hx (cellsA 0 0 0)
  clear h0 h1 h2 hx
  go_enter Try.func17, Try.ntmps17
  go_wp2
  go_region
  all_goals
    go_wp2
    refine bodyPost_ret (v := ans 0 n x) (by simp [results, Try.results17, go_sem, ans]) rfl ⟨rfl, ?_⟩
    repeat (first | refine Below.setCell ?_ (by simp <;> omega) _ | refine Below.drew ?_)
    exact (Below.refl _ _).alloc (Nat.le_refl _) _
theorem bounds_halt (k : Int) (m : Nat) (w : World) : ∃ u pv w', (boundsPanic .i64 k m .index : Sem Value).run Try.prog w = .halt (.panic (.iface u pv)) w' ∧ (w' = w ∨ w' = w.drew) := by
  unfold boundsPanic
  split
  · simp only [runtimePanic, goPanic, go_sem]
    exact ⟨_, _, _, rfl, .inr rfl⟩
  · simp only [runtimePanic, goPanic, go_sem]
    exact ⟨_, _, _, rfl, .inl rfl⟩
set_option maxRecDepth 100000 in
theorem index_halt (a : Option Addr) (m cap : Nat) (k : Int) (w : World) (hnil : a = none → m = 0) (ho : k < 0 ∨ (m : Int) ≤ k) :
    ∃ u pv w', (Instr.indexAt 22 (.slice a m cap) (.int .i64 k)).run Try.prog w = .halt (.panic (.iface u pv)) w' ∧ (w' = w ∨ w' = w.drew) := by
  cases a with
  | some a =>
    rw [run_indexAt_slice (h := Try.underlying22), if_neg (by omega)]
    exact bounds_halt k m w
  | none =>
    obtain rfl := hnil rfl
    have e : (Instr.indexAt 22 (.slice none 0 cap) (.int .i64 k)).run Try.prog w = (boundsPanic .i64 k 0 .index).run Try.prog w := by
      simp [Instr.indexAt, run_underlying Try.underlying22, asIntOf]
    rw [e]
    exact bounds_halt k 0 w
set_option maxRecDepth 100000 in
theorem two_out (w : World) (p0 p1 p2 : Addr) (n k : Int) (m : Nat) (a : Option Addr) (cap : Nat) (h0 : w.cell? p0 = some (.int .i64 n)) (h1 : w.cell? p1 = some (.slice a m cap)) (h2 : w.cell? p2 = some (.int .i64 k)) (hnil : a = none → m = 0) (hk : k < 0 ∨ (m : Int) ≤ k) :
    Calls Try.prog 17 #[.pointer (some p0), .pointer (some p1), .pointer (some p2)] w fun e w' => (∃ u pv, e = .panicked [{ v := .iface u pv, recovered := false }]) ∧ Below w.heap.size w w' := by
  have q0 := past h0 (cellsA 0 0 0)
  have q1 := past h1 (cellsA 0 0 0)
  have q2 := past h2 (cellsA 0 0 0)
  have hB : Below w.heap.size w (w.alloc (cellsA 0 0 0)) := (Below.refl _ _).alloc (Nat.le_refl _) _
  obtain ⟨u, pv, w2, hix, hw2⟩ := index_halt a m cap k (w.alloc (cellsA 0 0 0)).drew hnil hk
  have hB2 : Below w.heap.size w w2 := by
    rcases hw2 with rfl | rfl
    · exact hB.drew
    · exact hB.drew.drew
  clear h0 h1 h2 hw2
  go_enter Try.func17, Try.ntmps17
  go_wp2
  generalize w.alloc (cellsA 0 0 0) = w1 at *
  have hfin : (∃ u' pv', Ending.panicked [{ v := .iface u pv, recovered := false }] = Ending.panicked [{ v := .iface u' pv', recovered := false }]) ∧ Below w.heap.size w w2 := ⟨⟨_, _, rfl⟩, hB2⟩
  go_region_dies
  all_goals first | exact ⟨rfl, hfin⟩ | (rw [hix]; exact ⟨rfl, hfin⟩)
theorem catch_idle (p : Addr) (w : World) : CallsD Try.prog 49 #[.pointer (some p)] .returning w fun e u' w' => e = .returned (.tuple #[]) ∧ u' = .returning ∧ w' = w := by
  refine callsD_of_wpS Try.func49 rfl fun c₀ cs hu => ?_
  apply wpS_seq
  apply wpS_region
  simp [wpOpsS, go_sem, recoverD, hu, Try.ntmps49, Exit.thenS]
  apply wpS_seq
  apply wpS_region
  simp [wpOpsS, go_sem, recoverD, hu, Try.ntmps49, Exit.thenS]
  refine wpS_cond (t := false) (by simp [Act.eval, Array.replicate]) ?_
  simp only [Bool.false_eq_true, if_false]
  refine wpS_of_wp (wp_skip ?_)
  cases c₀
  simp_all [bodyPostS, results, Try.results49]
set_option maxRecDepth 100000 in
theorem catch_panicking (b : Nat) (u : TypeId) (pv : Value) (older : List PanicEntry) (w : World) (hc : ∀ i, i < 11 → ∃ v, w.cell? ⟨b, i, none⟩ = some v) (hz : ∀ i, w.frozen? ⟨b, i, none⟩ = false) :
    CallsD Try.prog 49 #[.pointer (some ⟨b, 0, none⟩)] (.panicking ({ v := .iface u pv, recovered := false } :: older)) w fun e u' w' =>
      e = .returned (.tuple #[]) ∧ u' = .panicking ({ v := .iface u pv, recovered := true } :: older) ∧ (∀ B, B ≤ b → Below B w w') ∧ Has w' b ansL := by
  have hlt : b < w.heap.size := by
    obtain ⟨v, hv⟩ := hc 0 (by decide)
    exact World.block_lt_of_cell? w _ hv
  obtain ⟨v0, c0⟩ := hc 0 (by decide)
  obtain ⟨v1, c1⟩ := hc 1 (by decide)
  obtain ⟨v2, c2⟩ := hc 2 (by decide)
  obtain ⟨v3, c3⟩ := hc 3 (by decide)
  obtain ⟨v4, c4⟩ := hc 4 (by decide)
  obtain ⟨v5, c5⟩ := hc 5 (by decide)
  obtain ⟨v6, c6⟩ := hc 6 (by decide)
  obtain ⟨v7, c7⟩ := hc 7 (by decide)
  obtain ⟨v8, c8⟩ := hc 8 (by decide)
  obtain ⟨v9, c9⟩ := hc 9 (by decide)
  obtain ⟨v10, c10⟩ := hc 10 (by decide)
  refine callsD_of_wpS Try.func49 rfl fun c₀ cs hu => ?_
  apply wpS_seq
  apply wpS_region
  simp [wpOpsS, go_sem, recoverD, hu, Try.ntmps49, Exit.thenS]
  apply wpS_seq
  apply wpS_region
  simp [wpOpsS, go_sem, recoverD, hu, Try.ntmps49, Exit.thenS]
  refine wpS_cond (t := true) (by simp [Act.eval, Array.replicate]) ?_
  simp only [if_true]
  apply wpS_region
  simp [wpOpsS, go_sem, c0, c1, c2, c3, c4, c5, c6, c7, c8, c9, c10, hz, bodyPostS, results, Try.results49]
  refine ⟨fun B hB => ?_, ?_, ?_⟩
  · repeat (refine Below.setCell ?_ (by simp <;> omega) _)
    exact Below.refl _ _
  · simp; exact hlt
  · intro i v hv
    have hi : i < 11 := by
      have := (List.getElem?_eq_some_iff.1 hv).1
      simpa using this
    have : i = 0 ∨ i = 1 ∨ i = 2 ∨ i = 3 ∨ i = 4 ∨ i = 5 ∨ i = 6 ∨ i = 7 ∨ i = 8 ∨ i = 9 ∨ i = 10 := by omega
    rcases this with rfl | rfl | rfl | rfl | rfl | rfl | rfl | rfl | rfl | rfl | rfl <;> (simp at hv; subst hv; simp [go_sem, c0, c1, c2, c3, c4, c5, c6, c7, c8, c9, c10])

abbrev ansZ : List Value := [.int .i64 0, .int .i64 0, .int .i64 0, .slice none 0 0, .slice none 0 0, .int .i64 0, .int .i64 0, .int .i64 0, .int .i64 0, .int .i64 0, .int .i64 0]
set_option maxRecDepth 100000 in
theorem catch_one (w : World) :
    Calls Try.prog 15 #[.func (.func 16) #[] #[]] w fun e w' => e = .returned (ans 0 7 0) ∧ Below w.heap.size w w' := by
  have hmf : ∀ (fn : Fn) (first cap : Array Value) (w : World), (Instr.makeFunc fn first cap).run Try.prog w = .ok (.func fn first cap) w := fun _ _ _ _ => rfl
  have hn := has_new w ansZ 29
  have hA : Below w.heap.size w (w.alloc (cellsA 0 0 0)) := (Below.refl _ _).alloc (Nat.le_refl _) _
  have hcall := one_any (w.alloc (cellsA 0 0 0))
  have HC := Lib.hid hcall
  have HN := Lib.hid hn
  have HA := Lib.hid hA
  clear hn hA hcall
  go_enter_defers Try.func15, Try.ntmps15
  go_wp2_with fail
  refine HC.out.mono ?_
  rintro e w1 ⟨rfl, hb1⟩
  have hN1 := HN.out.keep hb1
  have hB1 := HA.out.trans (hb1.mono HA.out.size)
  have hfz : ∀ i, w1.frozen? ⟨w.heap.size, i, none⟩ = false := fun i => (hb1.frozen (p := ⟨w.heap.size, i, none⟩) HN.out.1).trans (frozen_of_row _ _ _ _ _ (heap_alloc_new _ _))
  have f0 := hfz 0
  have f1 := hfz 1
  have f2 := hfz 2
  have f3 := hfz 3
  have f4 := hfz 4
  have f5 := hfz 5
  have f6 := hfz 6
  have f7 := hfz 7
  have f8 := hfz 8
  have f9 := hfz 9
  have f10 := hfz 10
  have c0 := hN1.2 0 _ rfl
  have c1 := hN1.2 1 _ rfl
  have c2 := hN1.2 2 _ rfl
  have c3 := hN1.2 3 _ rfl
  have c4 := hN1.2 4 _ rfl
  have c5 := hN1.2 5 _ rfl
  have c6 := hN1.2 6 _ rfl
  have c7 := hN1.2 7 _ rfl
  have c8 := hN1.2 8 _ rfl
  have c9 := hN1.2 9 _ rfl
  have c10 := hN1.2 10 _ rfl
  have HB1 := Lib.hid hB1
  clear hB1 hb1 hfz hN1
  unfold ans
  go_wp2
  refine leaves_cons (f := 49) (args := #[.pointer (some ⟨w.heap.size, 0, none⟩)]) (by simp) (by simp [go_sem]) ?_
  refine (catch_idle ⟨w.heap.size, 0, none⟩ _).mono ?_
  rintro e u' w'' ⟨rfl, rfl, rfl⟩
  simp [Leaves, settle, results, Try.results15, go_sem, c0, c1, c2, c3, c4, c5, c6, c7, c8, c9, c10]
  refine ⟨rfl, ?_⟩
  repeat (refine Below.setCell ?_ (by simp <;> omega) _)
  exact HB1.out
set_option maxRecDepth 100000 in
theorem catch_in (w : World) (p0 p1 p2 : Addr) (n : Int) (k m : Nat) (b off cap : Nat) (x : Int) (h0 : w.cell? p0 = some (.int .i64 n)) (h1 : w.cell? p1 = some (.slice (some ⟨b, off, none⟩) m cap)) (h2 : w.cell? p2 = some (.int .i64 k)) (hk : k < m) (hx : w.cell? ⟨b, off + k, none⟩ = some (.int .i64 x)) :
    Calls Try.prog 15 #[.func (.func 17) #[] #[.pointer (some p0), .pointer (some p1), .pointer (some p2)]] w fun e w' => e = .returned (ans 0 n x) ∧ Below w.heap.size w w' := by
  have hmf : ∀ (fn : Fn) (first cap : Array Value) (w : World), (Instr.makeFunc fn first cap).run Try.prog w = .ok (.func fn first cap) w := fun _ _ _ _ => rfl
  have hn := has_new w ansZ 29
  have hA : Below w.heap.size w (w.alloc (cellsA 0 0 0)) := (Below.refl _ _).alloc (Nat.le_refl _) _
  have hcall := two_in (w.alloc (cellsA 0 0 0)) p0 p1 p2 n k m b off cap x (past h0 _) (past h1 _) (past h2 _) hk (past hx _)
  have HC := Lib.hid hcall
  have HN := Lib.hid hn
  have HA := Lib.hid hA
  clear hn hA hcall
  go_enter_defers Try.func15, Try.ntmps15
  go_wp2_with fail
  refine HC.out.mono ?_
  rintro e w1 ⟨rfl, hb1⟩
  have hN1 := HN.out.keep hb1
  have hB1 := HA.out.trans (hb1.mono HA.out.size)
  have hfz : ∀ i, w1.frozen? ⟨w.heap.size, i, none⟩ = false := fun i => (hb1.frozen (p := ⟨w.heap.size, i, none⟩) HN.out.1).trans (frozen_of_row _ _ _ _ _ (heap_alloc_new _ _))
  have f0 := hfz 0
  have f1 := hfz 1
  have f2 := hfz 2
  have f3 := hfz 3
  have f4 := hfz 4
  have f5 := hfz 5
  have f6 := hfz 6
  have f7 := hfz 7
  have f8 := hfz 8
  have f9 := hfz 9
  have f10 := hfz 10
  have c0 := hN1.2 0 _ rfl
  have c1 := hN1.2 1 _ rfl
  have c2 := hN1.2 2 _ rfl
  have c3 := hN1.2 3 _ rfl
  have c4 := hN1.2 4 _ rfl
  have c5 := hN1.2 5 _ rfl
  have c6 := hN1.2 6 _ rfl
  have c7 := hN1.2 7 _ rfl
  have c8 := hN1.2 8 _ rfl
  have c9 := hN1.2 9 _ rfl
  have c10 := hN1.2 10 _ rfl
  have HB1 := Lib.hid hB1
  clear hB1 hb1 hfz hN1
  unfold ans
  go_wp2
  refine leaves_cons (f := 49) (args := #[.pointer (some ⟨w.heap.size, 0, none⟩)]) (by simp) (by simp [go_sem]) ?_
  refine (catch_idle ⟨w.heap.size, 0, none⟩ _).mono ?_
  rintro e u' w'' ⟨rfl, rfl, rfl⟩
  simp [Leaves, settle, results, Try.results15, go_sem, c0, c1, c2, c3, c4, c5, c6, c7, c8, c9, c10]
  refine ⟨rfl, ?_⟩
  repeat (refine Below.setCell ?_ (by simp <;> omega) _)
  exact HB1.out
set_option maxRecDepth 100000 in
theorem catch_out (w : World) (p0 p1 p2 : Addr) (n k : Int) (m : Nat) (a : Option Addr) (cap : Nat) (h0 : w.cell? p0 = some (.int .i64 n)) (h1 : w.cell? p1 = some (.slice a m cap)) (h2 : w.cell? p2 = some (.int .i64 k)) (hnil : a = none → m = 0) (hk : k < 0 ∨ (m : Int) ≤ k) :
    Calls Try.prog 15 #[.func (.func 17) #[] #[.pointer (some p0), .pointer (some p1), .pointer (some p2)]] w fun e w' => e = .returned (ans 23 0 0) ∧ Below w.heap.size w w' := by
  have hmf : ∀ (fn : Fn) (first cap : Array Value) (w : World), (Instr.makeFunc fn first cap).run Try.prog w = .ok (.func fn first cap) w := fun _ _ _ _ => rfl
  have hn := has_new w ansZ 29
  have hA : Below w.heap.size w (w.alloc (cellsA 0 0 0)) := (Below.refl _ _).alloc (Nat.le_refl _) _
  have hcall := two_out (w.alloc (cellsA 0 0 0)) p0 p1 p2 n k m a cap (past h0 _) (past h1 _) (past h2 _) hnil hk
  have HC := Lib.hid hcall
  have HN := Lib.hid hn
  have HA := Lib.hid hA
  clear hn hA hcall
  go_enter_defers Try.func15, Try.ntmps15
  go_wp2_with fail
  refine HC.out.mono ?_
  rintro e w1 ⟨⟨u, pv, rfl⟩, hb1⟩
  have hN1 := HN.out.keep hb1
  have hB1 := HA.out.trans (hb1.mono HA.out.size)
  have hfz : ∀ i, w1.frozen? ⟨w.heap.size, i, none⟩ = false := fun i => (hb1.frozen (p := ⟨w.heap.size, i, none⟩) HN.out.1).trans (frozen_of_row _ _ _ _ _ (heap_alloc_new _ _))
  have hex : ∀ i, i < 11 → ∃ v, w1.cell? ⟨w.heap.size, i, none⟩ = some v := fun i hi => ⟨_, hN1.2 i (ansZ[i]'hi) (List.getElem?_eq_getElem hi)⟩
  refine leaves_cons (f := 49) (args := #[.pointer (some ⟨w.heap.size, 0, none⟩)]) (by simp) (by simp [go_sem]) ?_
  refine (catch_panicking w.heap.size u pv [] w1 hex hfz).mono ?_
  rintro e u' w2 ⟨rfl, rfl, hbb, hh⟩
  have hb2 := hbb w.heap.size (Nat.le_refl _)
  have c0 := hh.2 0 _ rfl
  have c1 := hh.2 1 _ rfl
  have c2 := hh.2 2 _ rfl
  have c3 := hh.2 3 _ rfl
  have c4 := hh.2 4 _ rfl
  have c5 := hh.2 5 _ rfl
  have c6 := hh.2 6 _ rfl
  have c7 := hh.2 7 _ rfl
  have c8 := hh.2 8 _ rfl
  have c9 := hh.2 9 _ rfl
  have c10 := hh.2 10 _ rfl
  simp [Leaves, settle, results, Try.results15, go_sem, c0, c1, c2, c3, c4, c5, c6, c7, c8, c9, c10, ans]
  exact hB1.trans hb2
end Go.Proofs.Ytgdihccmkleimaa.EdgeLaw
