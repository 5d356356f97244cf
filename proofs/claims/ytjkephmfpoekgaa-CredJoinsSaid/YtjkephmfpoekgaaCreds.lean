/- The law ringkeep5.CredFalls of its Go body: no operation adds a capability, and a dropped capability stays dropped. -/
import Derived.Test.YtjkephmfpoekgaaCredFall
namespace Go.Proofs.Ytjkephmfpoekgaa.CredLaw
open Go.RowKit
set_option linter.unusedVariables false
set_option linter.unusedSimpArgs false
attribute [local go_sem ↓] load44_eq store44_eq zero44 cellsC_of
attribute [local go_sem] store44_new load44_new
/-- a slice of ints, apart from block b0 -/
def AtN (w : World) (b0 : Nat) (v : Value) (xs : List Int) : Prop :=
  ∃ (a : Option Addr) (cap : Nat), v = .slice a xs.length cap ∧ xs.length ≤ cap ∧ cap ≤ maxLen ∧
    (xs = [] ∨ ∃ b off, a = some ⟨b, off, none⟩ ∧ b ≠ b0 ∧ b < w.heap.size ∧ ∀ i, i < xs.length → w.cell? ⟨b, off + i, none⟩ = some (.int .i64 (xs.getD i 0)))
section
variable {w : World} {b0 : Nat} {v : Value} {xs : List Int}
theorem AtN.at (h : AtN w b0 v xs) : At (Value.int .i64) 0 w v xs := by
  obtain ⟨a, cap, h1, h2, h3, h⟩ := h
  refine ⟨a, cap, h1, h2, h3, ?_⟩
  rcases h with h | ⟨b, off, e, -, hl, hc⟩
  · exact .inl h
  · exact .inr ⟨b, off, e, hl, hc⟩
theorem AtN.keep {w' : World} (h : AtN w b0 v xs) (hb : Below w.heap.size w w') : AtN w' b0 v xs := by
  obtain ⟨a, cap, h1, h2, h3, h⟩ := h
  refine ⟨a, cap, h1, h2, h3, ?_⟩
  rcases h with h | ⟨b, off, e, hn, hl, hc⟩
  · exact .inl h
  · exact .inr ⟨b, off, e, hn, Nat.lt_of_lt_of_le hl hb.size, fun i hi => (hb.cell (p := ⟨b, _, none⟩) hl).trans (hc i hi)⟩
theorem AtN.setRow (h : AtN w b0 v xs) (c : Array Value) : AtN (w.setRow b0 c) b0 v xs := by
  obtain ⟨a, cap, h1, h2, h3, h⟩ := h
  refine ⟨a, cap, h1, h2, h3, ?_⟩
  rcases h with h | ⟨b, off, e, hn, hl, hc⟩
  · exact .inl h
  · refine .inr ⟨b, off, e, hn, by simpa [World.setRow] using hl, fun i hi => ?_⟩
    exact (World.cell?_of_block (w := w) (a := ⟨b, off + i, none⟩) (setRow_heap _ _ _ _ hn)).trans (hc i hi)
theorem AtN.of_at (h : At (Value.int .i64) 0 w v xs) (hb : w.heap.size ≤ b0) : AtN w b0 v xs := by
  obtain ⟨a, cap, h1, h2, h3, h⟩ := h
  refine ⟨a, cap, h1, h2, h3, ?_⟩
  rcases h with h | ⟨b, off, e, hl, hc⟩
  · exact .inl h
  · exact .inr ⟨b, off, e, by omega, hl, hc⟩
theorem AtN.of_own {B : Nat} (h : Own w B v xs) (hb : b0 < B) : AtN w b0 v xs := by
  rcases h.2 with ⟨rfl, hn⟩ | ⟨g, cap, cur, rfl, hg, hcur, hnc, hcm, hcs, htake⟩
  · exact ⟨none, 0, by rw [hn], by omega, Nat.zero_le _, .inl (List.eq_nil_of_length_eq_zero hn)⟩
  · refine ⟨some ⟨g, 0, none⟩, cap, rfl, hnc, hcm, .inr ⟨g, 0, rfl, by omega, (Array.getElem?_eq_some_iff.1 hcur).1, fun i hi => ?_⟩⟩
    have hc := World.ownsRow.cells (g := g) h rfl i (Value.int .i64 (xs.getD i 0)) (by simp [List.getD, hi])
    rw [Addr.add_lit] at hc
    simpa using hc
end
theorem become_ok {w : World} {m : Value} {c : C} {u : Int} (hm : At (Value.int .i64) 0 w m c.xs) (hz : chkC c = 0) (h0 : 0 ≤ u) (h1 : u ≤ 99) (d : C) (hd : becR c u = some d) (N : Nat) (hN : d.xs.length = N) :
    Calls Try.prog 10 #[.agg (cellsC c m), .int .i64 u] w fun e w' => ∃ a k, e = .returned (.tuple #[.agg (cellsC d (.slice a N k)), .int .i64 0]) ∧ Own w' w.heap.size (.slice a N k) d.xs ∧ Below w.heap.size w w' := by
  subst hN
  refine (become_is hm hz h0 h1).mono ?_
  rintro e w' ⟨hb, ⟨d', a, k, h, he, ho⟩ | ⟨h, -⟩⟩
  · rw [hd] at h; cases h
    exact ⟨a, k, he, ho, hb⟩
  · rw [hd] at h; cases h
theorem become_bad {w : World} {m : Value} {c : C} {u : Int} (hm : At (Value.int .i64) 0 w m c.xs) (hz : chkC c = 0) (h0 : 0 ≤ u) (h1 : u ≤ 99) (hd : becR c u = none) :
    Calls Try.prog 10 #[.agg (cellsC c m), .int .i64 u] w fun e w' => e = .returned (.tuple #[.agg (cellsC zeroC nilS), .int .i64 7]) ∧ Below w.heap.size w w' := by
  refine (become_is hm hz h0 h1).mono ?_
  rintro e w' ⟨hb, ⟨d', a, k, h, -, -⟩ | ⟨-, he⟩⟩
  · rw [hd] at h; cases h
  · exact ⟨he, hb⟩
theorem two00 (w : World) (T : TypeId) : ∀ i, i < [(0 : Int), 0].length → (w.alloc (.cells #[.int .i64 0, .int .i64 0] T)).cell? ⟨w.heap.size, i, none⟩ = some (.int .i64 ([(0 : Int), 0].getD i 0)) := by
  intro i hi
  rw [cell_of_row _ _ _ _ _ _ (heap_alloc_new _ _)]
  have : i = 0 ∨ i = 1 := by simp at hi; omega
  rcases this with rfl | rfl <;> rfl
set_option maxRecDepth 100000 in
set_option maxHeartbeats 400000 in
theorem creds_is (w : World) : Calls Try.prog 4 #[] w fun e w' => e = .returned (.bool true) ∧ Below w.heap.size w w' := by
  have HB := Lib.hid (show Calls Try.prog 10 #[.agg #[.int .i64 0, .int .i64 0, .slice none 0 0, .int .i64 127, .int .i64 0, .int .i64 0], .int .i64 5] w _ from become_ok (c := ⟨0, 0, [], 127, 0, 0⟩) (m := nilS) (u := 5) ⟨none, 0, rfl, Nat.le_refl _, Nat.zero_le _, .inl rfl⟩ (by decide) (by decide) (by decide) ⟨5, 0, [], 0, 0, 0⟩ (by rw [becR_some (.inr (by decide))]; rfl) 0 rfl)
  go_enter Try.func4, Try.ntmps4
  go_wp2_with fail
  refine HB.out.mono ?_
  rintro e w1 ⟨a, k, rfl, -, hb1⟩
  have HB1 := Lib.hid (hb1.alloc hb1.size (.cells (cellsC ⟨5, 0, [], 0, 0, 0⟩ (.slice a 0 k)) 24))
  have HR1 := Lib.hid (row_new w1 24 (cellsC ⟨5, 0, [], 0, 0, 0⟩ (.slice a 0 k)))
  have HS := Lib.hid (show (w1.alloc (.cells (cellsC ⟨5, 0, [], 0, 0, 0⟩ (.slice a 0 k)) 24)).heap.size = w1.heap.size + 1 from by simp)
  clear hb1
  go_wp2_with fail
  generalize w1.heap.size = b1 at *
  generalize w1.alloc (.cells (cellsC ⟨5, 0, [], 0, 0, 0⟩ (.slice a 0 k)) 24) = w2 at *
  have HIN := Lib.hid (in_is (w := w2.alloc (.cells #[.int .i64 4] 3)) (v := .agg #[.int .i64 0, .int .i64 2, .slice (some ⟨w2.heap.size, 0, none⟩) 1 1, .int .i64 0, .int .i64 0, .int .i64 0]) (c := ⟨0, 2, [4], 0, 0, 0⟩) 4 ⟨.slice (some ⟨w2.heap.size, 0, none⟩) 1 1, rfl, at_new w2 [4] 3 (by decide)⟩ (by decide))
  rw [← HS.out]
  refine HIN.out.mono ?_
  rintro e w3 ⟨rfl, hb3⟩
  rw [show inC ⟨0, 2, [4], 0, 0, 0⟩ 4 = true from by decide]
  have HB3 := Lib.hid ((HB1.out.alloc HB1.out.size (.cells #[.int .i64 4] 3)).trans (hb3.mono (by have := HB1.out.size; simp; omega)))
  have p0 : (w3.alloc (.cells #[.int .i64 0, .int .i64 0] 27)).cell? ⟨b1, 0, none⟩ = some (.int .i64 5) := (((HR1.out.alloc (.cells #[.int .i64 4] 3)).keep hb3).alloc (.cells #[.int .i64 0, .int .i64 0] 27)).cell 0
  have p3 : (w3.alloc (.cells #[.int .i64 0, .int .i64 0] 27)).cell? ⟨b1, 3, none⟩ = some (.int .i64 0) := (((HR1.out.alloc (.cells #[.int .i64 4] 3)).keep hb3).alloc (.cells #[.int .i64 0, .int .i64 0] 27)).cell 3
  clear hb3 HIN
  go_wp2_with fail
  refine (good_any _ _ [0, 0] _ (by simp) (two00 _ _)).mono ?_
  rintro e w4 ⟨rfl, rfl⟩
  rw [show ([(0 : Int), 0].all (· == 0)) = true from rfl]
  go_wp2
  go_ret
  exact ⟨rfl, HB3.out.alloc HB3.out.size _⟩
end Go.Proofs.Ytjkephmfpoekgaa.CredLaw
