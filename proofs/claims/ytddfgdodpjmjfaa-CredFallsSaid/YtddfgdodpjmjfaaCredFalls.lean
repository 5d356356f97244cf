/- The law ringkeep5.CredFalls of its Go body: no operation adds a capability, and a dropped capability stays dropped. -/
import Derived.Test.YtddfgdodpjmjfaaCredFall
import Derived.Deep.RegionHeld3
namespace Go.Proofs.Ytddfgdodpjmjfaa.CredLaw
open Go.RowKit
set_option linter.unusedVariables false
set_option linter.unusedSimpArgs false
attribute [local go_sem ↓] load44_eq store44_eq zero44 cellsC_of
attribute [local go_sem] store44_new load44_new
/-- a slice of ints, apart from block b0 -/
def AtN (w : World) (b0 : Nat) (v : Value) (xs : List Int) : Prop :=
  ∃ (a : Option Addr) (cap : Nat), v = .slice a xs.length cap ∧ xs.length ≤ cap ∧ cap ≤ maxLen ∧
    (xs = [] ∨ ∃ b off, a = some ⟨b, off, none⟩ ∧ b ≠ b0 ∧ b < w.heap.size ∧ ∀ i, i < xs.length → w.cell? ⟨b, off + i, none⟩ = some (.int .i64 (xs.getD i 0)))
section
variable {w : World} {b0 : Nat} {v : Value} {xs : List Int}
theorem AtN.at (h : AtN w b0 v xs) : At (Value.int .i64) 0 w v xs := by
  obtain ⟨a, cap, h1, h2, h3, h⟩ := h
  refine ⟨a, cap, h1, h2, h3, ?_⟩
  rcases h with h | ⟨b, off, e, -, hl, hc⟩
  · exact .inl h
  · exact .inr ⟨b, off, e, hl, hc⟩
theorem AtN.keep {w' : World} (h : AtN w b0 v xs) (hb : Below w.heap.size w w') : AtN w' b0 v xs := by
  obtain ⟨a, cap, h1, h2, h3, h⟩ := h
  refine ⟨a, cap, h1, h2, h3, ?_⟩
  rcases h with h | ⟨b, off, e, hn, hl, hc⟩
  · exact .inl h
  · exact .inr ⟨b, off, e, hn, Nat.lt_of_lt_of_le hl hb.size, fun i hi => (hb.cell (p := ⟨b, _, none⟩) hl).trans (hc i hi)⟩
theorem AtN.setRow (h : AtN w b0 v xs) (c : Array Value) : AtN (w.setRow b0 c) b0 v xs := by
  obtain ⟨a, cap, h1, h2, h3, h⟩ := h
  refine ⟨a, cap, h1, h2, h3, ?_⟩
  rcases h with h | ⟨b, off, e, hn, hl, hc⟩
  · exact .inl h
  · refine .inr ⟨b, off, e, hn, by simpa [World.setRow] using hl, fun i hi => ?_⟩
    exact (World.cell?_of_block (w := w) (a := ⟨b, off + i, none⟩) (setRow_heap _ _ _ _ hn)).trans (hc i hi)
theorem AtN.of_at (h : At (Value.int .i64) 0 w v xs) (hb : w.heap.size ≤ b0) : AtN w b0 v xs := by
  obtain ⟨a, cap, h1, h2, h3, h⟩ := h
  refine ⟨a, cap, h1, h2, h3, ?_⟩
  rcases h with h | ⟨b, off, e, hl, hc⟩
  · exact .inl h
  · exact .inr ⟨b, off, e, by omega, hl, hc⟩
theorem AtN.of_own {B : Nat} (h : Own w B v xs) (hb : b0 < B) : AtN w b0 v xs := by
  rcases h.2 with ⟨rfl, hn⟩ | ⟨g, cap, cur, rfl, hg, hcur, hnc, hcm, hcs, htake⟩
  · exact ⟨none, 0, by rw [hn], by omega, Nat.zero_le _, .inl (List.eq_nil_of_length_eq_zero hn)⟩
  · refine ⟨some ⟨g, 0, none⟩, cap, rfl, hnc, hcm, .inr ⟨g, 0, rfl, by omega, (Array.getElem?_eq_some_iff.1 hcur).1, fun i hi => ?_⟩⟩
    have hc := World.ownsRow.cells (g := g) h rfl i (Value.int .i64 (xs.getD i 0)) (by simp [List.getD, hi])
    rw [Addr.add_lit] at hc
    simpa using hc
end
theorem drop_ok {w : World} {m : Value} {c : C} {n : Int} (hm : At (Value.int .i64) 0 w m c.xs) (hz : chkC c = 0) (h0 : 0 ≤ n) (h1 : n ≤ 127) (d : C) (hd : d = { c with caps := bits .andNot .i64 c.caps n }) (N : Nat) (hN : d.xs.length = N) :
    Calls Try.prog 34 #[.agg (cellsC c m), .int .i64 n] w fun e w' => ∃ a k, e = .returned (.tuple #[.agg (cellsC d (.slice a N k)), .int .i64 0]) ∧ Own w' w.heap.size (.slice a N k) d.xs ∧ Below w.heap.size w w' := by
  subst hd; subst hN
  refine (drop_is hm h0 h1).mono ?_
  rintro e w' ⟨hb, ⟨-, a, k, he, ho⟩ | ⟨h, -⟩⟩
  · exact ⟨a, k, he, ho, hb⟩
  · exact absurd hz h
theorem drop_bad {w : World} {m : Value} {c : C} {n : Int} (hm : At (Value.int .i64) 0 w m c.xs) (hz : chkC c ≠ 0) (h0 : 0 ≤ n) (h1 : n ≤ 127) :
    Calls Try.prog 34 #[.agg (cellsC c m), .int .i64 n] w fun e w' => e = .returned (.tuple #[.agg (cellsC zeroC nilS), .int .i64 (chkC c)]) ∧ Below w.heap.size w w' := by
  refine (drop_is hm h0 h1).mono ?_
  rintro e w' ⟨hb, ⟨h, -⟩ | ⟨-, he⟩⟩
  · exact absurd h hz
  · exact ⟨he, hb⟩
theorem become_ok {w : World} {m : Value} {c : C} {u : Int} (hm : At (Value.int .i64) 0 w m c.xs) (hz : chkC c = 0) (h0 : 0 ≤ u) (h1 : u ≤ 99) (d : C) (hd : becR c u = some d) (N : Nat) (hN : d.xs.length = N) :
    Calls Try.prog 36 #[.agg (cellsC c m), .int .i64 u] w fun e w' => ∃ a k, e = .returned (.tuple #[.agg (cellsC d (.slice a N k)), .int .i64 0]) ∧ Own w' w.heap.size (.slice a N k) d.xs ∧ Below w.heap.size w w' := by
  subst hN
  refine (become_is hm hz h0 h1).mono ?_
  rintro e w' ⟨hb, ⟨d', a, k, h, he, ho⟩ | ⟨h, -⟩⟩
  · rw [hd] at h; cases h
    exact ⟨a, k, he, ho, hb⟩
  · rw [hd] at h; cases h
theorem become_bad {w : World} {m : Value} {c : C} {u : Int} (hm : At (Value.int .i64) 0 w m c.xs) (hz : chkC c = 0) (h0 : 0 ≤ u) (h1 : u ≤ 99) (hd : becR c u = none) :
    Calls Try.prog 36 #[.agg (cellsC c m), .int .i64 u] w fun e w' => e = .returned (.tuple #[.agg (cellsC zeroC nilS), .int .i64 7]) ∧ Below w.heap.size w w' := by
  refine (become_is hm hz h0 h1).mono ?_
  rintro e w' ⟨hb, ⟨d', a, k, h, -, -⟩ | ⟨-, he⟩⟩
  · rw [hd] at h; cases h
  · exact ⟨he, hb⟩
/-- plain: what is left of the capabilities -/
theorem caps_nat {c : C} (h : chkC c = 0) : ∃ A : Nat, c.caps = A ∧ A < 128 := by
  have hf := ((chkC_zero c).1 h).2.2.2
  exact ⟨c.caps.toNat, by have := hf.1; omega, by have := hf.2.1; have := hf.1; omega⟩
theorem fall_drop {c : C} {n : Int} (h : chkC c = 0) (h0 : 0 ≤ n) (h1 : n ≤ 127) :
    bits .andNot .i64 (bits .andNot .i64 c.caps n) c.caps = 0 ∧ bits .and .i64 (bits .andNot .i64 c.caps n) n = 0 := by
  obtain ⟨A, hA, hA7⟩ := caps_nat h
  obtain ⟨N, rfl⟩ : ∃ N : Nat, n = N := ⟨n.toNat, by omega⟩
  have hl := less_le A N
  rw [hA, i64_andNot A N (by omega) (by omega), i64_andNot _ A (by omega) (by omega), i64_and _ N (by omega) (by omega)]
  refine ⟨?_, ?_⟩
  · have : less (less A N) A = 0 := by
      rw [less_zero]
      intro i hi
      rw [less_bit] at hi
      simp at hi
      exact hi.1
    rw [this]; rfl
  · have : less A N &&& N = 0 := by
      apply Nat.eq_of_testBit_eq
      intro i
      rw [Nat.testBit_and, less_bit]
      cases A.testBit i <;> cases N.testBit i <;> simp
    rw [this]; rfl
theorem fall_become {c d : C} {u : Int} (h : chkC c = 0) (hd : becR c u = some d) : bits .andNot .i64 d.caps c.caps = 0 := by
  obtain ⟨A, hA, hA7⟩ := caps_nat h
  have hc : d.caps = 0 ∨ d.caps = c.caps := by
    unfold becR at hd
    split at hd
    · cases hd
    · have hd := Option.some.inj hd
      rw [← hd]
      show (if u ≠ 0 then (0 : Int) else c.caps) = 0 ∨ (if u ≠ 0 then (0 : Int) else c.caps) = c.caps
      split
      · exact .inl rfl
      · exact .inr rfl
  rcases hc with h | h
  · rw [h, hA, show (0 : Int) = ((0 : Nat) : Int) from rfl, i64_andNot 0 A (by decide) (by omega)]
    have : less 0 A = 0 := by rw [less_zero]; intro i hi; simp at hi
    rw [this]
  · rw [h, hA, i64_andNot A A (by omega) (by omega)]
    have : less A A = 0 := by rw [less_zero]; intro i hi; exact hi
    rw [this]; rfl
theorem two00 (w : World) (T : TypeId) : ∀ i, i < [(0 : Int), 0].length → (w.alloc (.cells #[.int .i64 0, .int .i64 0] T)).cell? ⟨w.heap.size, i, none⟩ = some (.int .i64 ([(0 : Int), 0].getD i 0)) := by
  intro i hi
  rw [cell_of_row _ _ _ _ _ _ (heap_alloc_new _ _)]
  have : i = 0 ∨ i = 1 := by simp at hi; omega
  rcases this with rfl | rfl <;> rfl
set_option maxRecDepth 100000 in
set_option maxHeartbeats 400000 in
theorem creds_is (w : World) : Calls Try.prog 33 #[] w fun e w' => e = .returned (.bool true) ∧ Below w.heap.size w w' := by
  have HB := Lib.hid (show Calls Try.prog 36 #[.agg #[.int .i64 0, .int .i64 0, .slice none 0 0, .int .i64 127, .int .i64 0, .int .i64 0], .int .i64 5] w _ from become_ok (c := ⟨0, 0, [], 127, 0, 0⟩) (m := nilS) (u := 5) ⟨none, 0, rfl, Nat.le_refl _, Nat.zero_le _, .inl rfl⟩ (by decide) (by decide) (by decide) ⟨5, 0, [], 0, 0, 0⟩ (by rw [becR_some (.inr (by decide))]; rfl) 0 rfl)
  go_enter Try.func33, Try.ntmps33
  go_wp2_with fail
  refine HB.out.mono ?_
  rintro e w1 ⟨a, k, rfl, -, hb1⟩
  have HB1 := Lib.hid (hb1.alloc hb1.size (.cells (cellsC ⟨5, 0, [], 0, 0, 0⟩ (.slice a 0 k)) 44))
  have HR1 := Lib.hid (row_new w1 44 (cellsC ⟨5, 0, [], 0, 0, 0⟩ (.slice a 0 k)))
  have HS := Lib.hid (show (w1.alloc (.cells (cellsC ⟨5, 0, [], 0, 0, 0⟩ (.slice a 0 k)) 44)).heap.size = w1.heap.size + 1 from by simp)
  clear hb1
  go_wp2_with fail
  generalize w1.heap.size = b1 at *
  generalize w1.alloc (.cells (cellsC ⟨5, 0, [], 0, 0, 0⟩ (.slice a 0 k)) 44) = w2 at *
  have HIN := Lib.hid (in_is (w := w2.alloc (.cells #[.int .i64 4] 3)) (v := .agg #[.int .i64 0, .int .i64 2, .slice (some ⟨w2.heap.size, 0, none⟩) 1 1, .int .i64 0, .int .i64 0, .int .i64 0]) (c := ⟨0, 2, [4], 0, 0, 0⟩) 4 ⟨.slice (some ⟨w2.heap.size, 0, none⟩) 1 1, rfl, at_new w2 [4] 3 (by decide)⟩ (by decide))
  rw [← HS.out]
  refine HIN.out.mono ?_
  rintro e w3 ⟨rfl, hb3⟩
  rw [show inC ⟨0, 2, [4], 0, 0, 0⟩ 4 = true from by decide]
  have HB3 := Lib.hid ((HB1.out.alloc HB1.out.size (.cells #[.int .i64 4] 3)).trans (hb3.mono (by have := HB1.out.size; simp; omega)))
  have p0 : (w3.alloc (.cells #[.int .i64 0, .int .i64 0] 26)).cell? ⟨b1, 0, none⟩ = some (.int .i64 5) := (((HR1.out.alloc (.cells #[.int .i64 4] 3)).keep hb3).alloc (.cells #[.int .i64 0, .int .i64 0] 26)).cell 0
  have p3 : (w3.alloc (.cells #[.int .i64 0, .int .i64 0] 26)).cell? ⟨b1, 3, none⟩ = some (.int .i64 0) := (((HR1.out.alloc (.cells #[.int .i64 4] 3)).keep hb3).alloc (.cells #[.int .i64 0, .int .i64 0] 26)).cell 3
  clear hb3 HIN
  go_wp2_with fail
  refine (good_any _ _ [0, 0] _ (by simp) (two00 _ _)).mono ?_
  rintro e w4 ⟨rfl, rfl⟩
  rw [show ([(0 : Int), 0].all (· == 0)) = true from rfl]
  go_wp2
  go_ret
  exact ⟨rfl, HB3.out.alloc HB3.out.size _⟩
set_option maxRecDepth 100000 in
set_option maxHeartbeats 1000000 in
theorem credfalls_any {w : World} {m vl : Value} {c : C} {l : List Int} (hm : At (Value.int .i64) 0 w m c.xs) (hl : At (Value.int .i64) 0 w vl l) (hlb : ∀ x ∈ l, -9223372036854775808 ≤ x ∧ x ≤ 9223372036854775807) :
    Calls Try.prog 10 #[.agg (cellsC c m), vl] w fun e w' => e = .returned (.bool true) ∧ Below w.heap.size w w' := by
  obtain ⟨al, capl, rfl, hll, hcapl, hl⟩ := hl
  have HL : Hid (∀ i, i < l.length → ∃ bl off, al = some ⟨bl, off, none⟩ ∧ bl < w.heap.size ∧ w.cell? ⟨bl, off + i, none⟩ = some (.int .i64 (l.getD i 0)) ∧ -9223372036854775808 ≤ l.getD i 0 ∧ l.getD i 0 ≤ 9223372036854775807) := Lib.hid (fun i hi => by
    rcases hl with h | ⟨bl, off, h1, h2, h3⟩
    · rw [h] at hi; simp at hi
    · refine ⟨bl, off, h1, h2, h3 i hi, ?_⟩
      have : l.getD i 0 ∈ l := by simp [List.getD, hi]
      exact hlb _ this)
  obtain ⟨n, hn⟩ : ∃ n, l.length = n := ⟨_, rfl⟩
  have hn63 : n ≤ 9223372036854775807 := by rw [← hn]; unfold maxLen at hcapl; omega
  rw [hn] at HL ⊢
  have HM0 := Lib.hid ((AtN.of_at hm (Nat.le_refl _)).keep (Go.Joins.below_alloc1 w (.cells (cellsC c m) 44)))
  have HR0 := Lib.hid (row_new w 44 (cellsC c m))
  have HA := Lib.hid (Go.Joins.below_alloc1 w (.cells (cellsC c m) 44))
  clear hm hl hlb hcapl hll hn
  go_enter Try.func10, Try.ntmps10
  go_wp2_with fail
  refine (creds_is _).mono ?_
  rintro e w1 ⟨rfl, hb1⟩
  have HM1 := Lib.hid (HM0.out.keep hb1)
  have HR1 := Lib.hid (HR0.out.keep hb1)
  have HB1 := Lib.hid (HA.out.trans (hb1.mono HA.out.size))
  clear hb1 HM0 HR0 HA
  go_wp2_with fail
  go_loopw [16] (fun iv wr => ∃ (i : Nat) (c : C) (m : Value), i ≤ n ∧ iv = .int .i64 i ∧ Hid (Below w.heap.size w wr) ∧ Hid (Row wr w.heap.size 44 (cellsC c m)) ∧ Hid (AtN wr w.heap.size m c.xs)) (fun iv _ => n - (intOf iv).toNat)
  case atStart => exact ⟨0, c, m, by omega, rfl, HB1, HR1, HM1⟩
  case round =>
    clear HB1 HR1 HM1
    obtain ⟨i, c, m, hi, rfl, HBW, HRW, HMW⟩ := hrel
    by_cases hlt : i < n
    · obtain ⟨bl, off, rfl, hbl, hcell, hx0, hx1⟩ := HL.out i hlt
      have g0 := (HBW.out.cell (p := ⟨bl, off + i, none⟩) hbl).trans hcell
      have p3 : wr.cell? ⟨w.heap.size, 3, none⟩ = some (.int .i64 c.caps) := HRW.out.cell 3
      have hlen : i + 1 ≤ n := hlt
      generalize l.getD i 0 = x at *
      obtain ⟨N, hN⟩ : ∃ N, N = x % 128 := ⟨_, rfl⟩
      have HN := Lib.hid hN
      have HN2 := Lib.hid (show 0 ≤ N ∧ N ≤ 127 by omega)
      clear hN hcell
      go_upto_region 7 with fail
      clear g0
      by_cases hz : chkC c = 0
      · have HCZ := Lib.hid hz
        obtain ⟨d, hd⟩ : ∃ d : C, d = { c with caps := bits .andNot .i64 c.caps N } := ⟨_, rfl⟩
        obtain ⟨nd, hnd⟩ : ∃ nd, d.xs.length = nd := ⟨_, rfl⟩
        have C0 := Lib.hid (drop_ok (HMW.out.keep (Below.refl _ _).drew).at hz HN2.out.1 HN2.out.2 d hd nd hnd)
        have C1 := Lib.hid (drop_ok (HMW.out.keep ((Below.refl _ _).alloc (Nat.le_refl _) (.cells (cellsC zeroC nilS) 44)).drew).at hz HN2.out.1 HN2.out.2 d hd nd hnd)
        have HF1 := Lib.hid (fall_drop hz HN2.out.1 HN2.out.2)
        have HDC := Lib.hid (show d.caps = bits .andNot .i64 c.caps N by rw [hd])
        have HZ1 := Lib.hid ((row_new wr 44 (cellsC zeroC nilS)).keep (Below.refl _ _).drew)
        have HD0 := Lib.hid (show Below wr.heap.size wr wr.drew from (Below.refl _ _).drew)
        have HD1 := Lib.hid (show Below wr.heap.size wr (wr.alloc (.cells (cellsC zeroC nilS) 44)).drew from ((Below.refl _ _).alloc (Nat.le_refl _) _).drew)
        have HSZ := Lib.hid (show (wr.alloc (.cells (cellsC zeroC nilS) 44)).drew.heap.size = wr.heap.size + 1 from by show (wr.alloc (.cells (cellsC zeroC nilS) 44)).heap.size = _; simp)
        clear hz hd hnd
        go_cut [8, 9, 16] from 16 to 75 (fun s8 s9 s16 wx => s16 = .int .i64 i ∧ s9 = .int .i64 0 ∧ ∃ b8 a k, s8 = .pointer (some ⟨b8, 0, none⟩) ∧ wr.heap.size ≤ b8 ∧ Below wr.heap.size wr wx ∧ Row wx b8 44 (cellsC d (.slice a nd k)) ∧ AtN wx w.heap.size (.slice a nd k) d.xs)
        case first =>
          have HBO : Hid (∀ w', Below wr.heap.size wr w' → (fun w' => Below wr.heap.size wr w' ∧ (load44 (.pointer (some ⟨w.heap.size, 0, none⟩))).run Try.prog w' = .ok (.agg (cellsC c m)) w') w') := Lib.hid (fun w' hb => ⟨hb, (HRW.out.keep hb).load44⟩)
          go_region_held3 (fun w' => Below wr.heap.size wr w' ∧ (load44 (.pointer (some ⟨w.heap.size, 0, none⟩))).run Try.prog w' = .ok (.agg (cellsC c m)) w') (first | assumption | exact HBO.out _ HD0.out | exact HBO.out _ HD1.out | exact HBO.out _ (below_setRow (And.left ‹_›) (Nat.le_refl _) _) | exact HBO.out _ (Below.alloc (And.left ‹_›) (Below.size (And.left ‹_›)) _) | go_keep)
            (first | (go_at_call 18; refine (within_any x 128 _ (by decide) (by decide)).mono ?_; rintro e w9 ⟨rfl, rfl⟩; rw [← HN.out]) | (go_at_call 34; (with_reducible refine C0.out.mono ?_); rintro e w9 ⟨a9, k9, rfl, ho9, hb9⟩; have hS := HBO.out _ (HD0.out.trans (hb9.mono HD0.out.size))) | (go_at_call 34; (with_reducible refine C1.out.mono ?_); rintro e w9 ⟨a9, k9, rfl, ho9, hb9⟩; have hst := (HZ1.out.keep hb9).store44 d a9 nd k9; have hS := HBO.out _ (HD1.out.trans (hb9.mono HD1.out.size))))
          all_goals go_wp2
          all_goals go_meet
          all_goals first
            | exact ⟨rfl, rfl, _, _, _, rfl, (HD0.out.trans (hb9.mono HD0.out.size)).size, (HD0.out.trans (hb9.mono HD0.out.size)).alloc (HD0.out.trans (hb9.mono HD0.out.size)).size _, row_new _ _ _, (AtN.of_own ho9 (show w.heap.size < wr.heap.size from HRW.out.lt)).keep ((Below.refl _ _).alloc (Nat.le_refl _) _)⟩
            | exact ⟨rfl, rfl, _, _, _, rfl, Nat.le_refl _, below_setRow (HD1.out.trans (hb9.mono HD1.out.size)) (Nat.le_refl _) _, (HZ1.out.keep hb9).setRow _, AtN.of_own (ho9.of (Nat.le_refl _) (fun g hg => setRow_heap _ _ _ _ (by have := HSZ.out; omega))) (by have := HSZ.out; have := HRW.out.lt; omega)⟩
        case rest =>
          obtain ⟨rfl, rfl, b8, a8, k8, rfl, hb8, hbc, hr8, hm8⟩ := hcut
          have HBy := Lib.hid (HBW.out.trans (hbc.mono HBW.out.size))
          have HRy := Lib.hid (HRW.out.keep hbc)
          have HMy := Lib.hid (HMW.out.keep hbc)
          have HR8 := Lib.hid hr8
          have HM8 := Lib.hid hm8
          have hne8 : b8 ≠ w.heap.size := by have := HRW.out.lt; omega
          clear hb8 hbc hr8 hm8 C0 C1 HZ1 HD0 HD1 HSZ HRW HMW
          go_upto_region 10 with fail
          obtain ⟨wy, rfl⟩ : ∃ y : World, y = wc := ⟨_, rfl⟩
          obtain ⟨U, hU⟩ : ∃ U, U = (IntKind.i64.wrap (x.tdiv 7)) % 100 := ⟨_, rfl⟩
          have HU := Lib.hid hU
          have HU2 := Lib.hid (show 0 ≤ U ∧ U ≤ 99 by omega)
          have hwq : ∀ w, Calls Try.prog 18 #[.int .i64 x, .int .i64 128] w fun e w' => e = .returned (.int .i64 N) ∧ w' = w := fun w => by
            rw [HN.out]
            exact (within_any x 128 w (by decide) (by decide)).mono fun e w' h => ⟨h.1, h.2.symm⟩
          have HWQ := Lib.hid hwq
          have HRW := HRy
          have HMW := HMy
          clear hU hwq
          cases hbr : becR c U with
          | some b =>
            obtain ⟨nb, hnb⟩ : ∃ nb, b.xs.length = nb := ⟨_, rfl⟩
            have C0 := Lib.hid (become_ok (HMW.out.keep (Below.refl _ _).drew).at HCZ.out HU2.out.1 HU2.out.2 b hbr nb hnb)
            have C1 := Lib.hid (become_ok (HMW.out.keep ((Below.refl _ _).alloc (Nat.le_refl _) (.cells (cellsC zeroC nilS) 44)).drew).at HCZ.out HU2.out.1 HU2.out.2 b hbr nb hnb)
            have HF3 := Lib.hid (fall_become HCZ.out hbr)
            have HZ1 := Lib.hid ((row_new wy 44 (cellsC zeroC nilS)).keep (Below.refl _ _).drew)
            have HD0 := Lib.hid (show Below wy.heap.size wy wy.drew from (Below.refl _ _).drew)
            have HD1 := Lib.hid (show Below wy.heap.size wy (wy.alloc (.cells (cellsC zeroC nilS) 44)).drew from ((Below.refl _ _).alloc (Nat.le_refl _) _).drew)
            have HSZ := Lib.hid (show (wy.alloc (.cells (cellsC zeroC nilS) 44)).drew.heap.size = wy.heap.size + 1 from by show (wy.alloc (.cells (cellsC zeroC nilS) 44)).heap.size = _; simp)
            clear hbr hnb
            go_cut [10, 11, 16] from 16 to 75 (fun s10 s11 s16 wx => s16 = .int .i64 i ∧ s11 = .int .i64 0 ∧ ∃ b8 a k, s10 = .pointer (some ⟨b8, 0, none⟩) ∧ wy.heap.size ≤ b8 ∧ Below wy.heap.size wy wx ∧ Row wx b8 44 (cellsC b (.slice a nb k)) ∧ AtN wx w.heap.size (.slice a nb k) b.xs)
            case first =>
              have HBO : Hid (∀ w', Below wy.heap.size wy w' → (fun w' => Below wy.heap.size wy w' ∧ (load44 (.pointer (some ⟨w.heap.size, 0, none⟩))).run Try.prog w' = .ok (.agg (cellsC c m)) w') w') := Lib.hid (fun w' hb => ⟨hb, (HRW.out.keep hb).load44⟩)
              go_region_held3 (fun w' => Below wy.heap.size wy w' ∧ (load44 (.pointer (some ⟨w.heap.size, 0, none⟩))).run Try.prog w' = .ok (.agg (cellsC c m)) w') (first | assumption | exact HBO.out _ HD0.out | exact HBO.out _ HD1.out | exact HBO.out _ (below_setRow (And.left ‹_›) (Nat.le_refl _) _) | exact HBO.out _ (Below.alloc (And.left ‹_›) (Below.size (And.left ‹_›)) _) | go_keep)
                (first | (go_at_call 18; refine (within_any _ 100 _ (by decide) (by decide)).mono ?_; rintro e w9 ⟨rfl, rfl⟩; rw [← HU.out]) | (go_at_call 36; (with_reducible refine C0.out.mono ?_); rintro e w9 ⟨a9, k9, rfl, ho9, hb9⟩; have hS := HBO.out _ (HD0.out.trans (hb9.mono HD0.out.size))) | (go_at_call 36; (with_reducible refine C1.out.mono ?_); rintro e w9 ⟨a9, k9, rfl, ho9, hb9⟩; have hst := (HZ1.out.keep hb9).store44 b a9 nb k9; have hS := HBO.out _ (HD1.out.trans (hb9.mono HD1.out.size))))
              all_goals go_wp2
              all_goals go_meet
              all_goals first
                | exact ⟨rfl, rfl, _, _, _, rfl, (HD0.out.trans (hb9.mono HD0.out.size)).size, (HD0.out.trans (hb9.mono HD0.out.size)).alloc (HD0.out.trans (hb9.mono HD0.out.size)).size _, row_new _ _ _, (AtN.of_own ho9 (show w.heap.size < wy.heap.size from HRW.out.lt)).keep ((Below.refl _ _).alloc (Nat.le_refl _) _)⟩
                | exact ⟨rfl, rfl, _, _, _, rfl, Nat.le_refl _, below_setRow (HD1.out.trans (hb9.mono HD1.out.size)) (Nat.le_refl _) _, (HZ1.out.keep hb9).setRow _, AtN.of_own (ho9.of (Nat.le_refl _) (fun g hg => setRow_heap _ _ _ _ (by have := HSZ.out; omega))) (by have := HSZ.out; have := HRW.out.lt; omega)⟩
            case rest =>
              obtain ⟨rfl, rfl, b10, a10, k10, rfl, hb10, hbc, hr10, hm10⟩ := hcut
              have HBz := Lib.hid (HBy.out.trans (hbc.mono HBy.out.size))
              have HRz := Lib.hid (HRy.out.keep hbc)
              have HM8z := Lib.hid (HM8.out.keep hbc)
              have HR8z := Lib.hid (HR8.out.keep hbc)
              have HR10 := Lib.hid hr10
              have HM10 := Lib.hid hm10
              have hne10 : b10 ≠ w.heap.size := by have := HRy.out.lt; omega
              have p8 : wc.cell? ⟨b8, 3, none⟩ = some (.int .i64 (bits .andNot .i64 c.caps N)) := by rw [← HDC.out]; exact HR8z.out.cell 3
              have p10 : wc.cell? ⟨b10, 3, none⟩ = some (.int .i64 b.caps) := HR10.out.cell 3
              have hg1 : (bits .andNot .i64 (bits .andNot .i64 c.caps N) c.caps != 0) = false := by rw [HF1.out.1]; rfl
              have hg2 : (bits .and .i64 (bits .andNot .i64 c.caps N) N != 0) = false := by rw [HF1.out.2]; rfl
              have hg3 : (bits .andNot .i64 b.caps c.caps != 0) = false := by rw [HF3.out]; rfl
              clear hb10 hbc hr10 hm10 C0 C1 HZ1 HD0 HD1 HSZ
              go_upto_region 11 with fail
              go_quiet (first | (go_at_call 18; refine Calls.quiet_of_same (HWQ.out _)))
              clear p8 p10 hg1 hg2 hg3
              have hl8 := fun mm => (HR8z.out.keep (below_drewN (Below.refl _ _) mm)).load44
              have hl10 := fun mm => (HR10.out.keep (below_drewN (Below.refl _ _) mm)).load44
              have hs8 := fun mm => (HRz.out.keep (below_drewN (Below.refl _ _) mm)).store44 d a8 nd k8
              have hs10 := fun mm => (HRz.out.keep (below_drewN (Below.refl _ _) mm)).store44 b a10 nb k10
              have HE8 := Lib.hid (fun mm => (HRz.out.keep (below_drewN (Below.refl wc.heap.size _) mm)).setRow (cellsC d (.slice a8 nd k8)))
              have HE10 := Lib.hid (fun mm => (HRz.out.keep (below_drewN (Below.refl wc.heap.size _) mm)).setRow (cellsC b (.slice a10 nb k10)))
              have HG8 := Lib.hid (fun mm => (HM8z.out.keep (below_drewN (Below.refl wc.heap.size _) mm)).setRow (cellsC d (.slice a8 nd k8)))
              have HG10 := Lib.hid (fun mm => (HM10.out.keep (below_drewN (Below.refl wc.heap.size _) mm)).setRow (cellsC b (.slice a10 nb k10)))
              have HEB := Lib.hid (fun (C : Array Value) mm => below_setRow (below_drewN HBz.out mm) (Nat.le_refl _) C)
              cases he : (x.tmod 2 == 0)
              · go_wp2
                go_roundw
                case rel => exact ⟨i + 1, d, .slice a8 nd k8, hlen, by go_num, HEB.out _ _, HE8.out _, HG8.out _⟩
                case measure => simp [intOf]; omega
              · go_wp2
                go_roundw
                case rel => exact ⟨i + 1, b, .slice a10 nb k10, hlen, by go_num, HEB.out _ _, HE10.out _, HG10.out _⟩
                case measure => simp [intOf]; omega
          | none =>
            have C0 := Lib.hid (become_bad (HMW.out.keep (Below.refl _ _).drew).at HCZ.out HU2.out.1 HU2.out.2 hbr)
            have C1 := Lib.hid (become_bad (HMW.out.keep ((Below.refl _ _).alloc (Nat.le_refl _) (.cells (cellsC zeroC nilS) 44)).drew).at HCZ.out HU2.out.1 HU2.out.2 hbr)
            have HZ1 := Lib.hid ((row_new wy 44 (cellsC zeroC nilS)).keep (Below.refl _ _).drew)
            have HD0 := Lib.hid (show Below wy.heap.size wy wy.drew from (Below.refl _ _).drew)
            have HD1 := Lib.hid (show Below wy.heap.size wy (wy.alloc (.cells (cellsC zeroC nilS) 44)).drew from ((Below.refl _ _).alloc (Nat.le_refl _) _).drew)
            have HSZ := Lib.hid (show (wy.alloc (.cells (cellsC zeroC nilS) 44)).drew.heap.size = wy.heap.size + 1 from by show (wy.alloc (.cells (cellsC zeroC nilS) 44)).heap.size = _; simp)
            clear hbr
            go_cut [10, 11, 16] from 16 to 75 (fun s10 s11 s16 wx => s16 = .int .i64 i ∧ s11 = .int .i64 7 ∧ Below wy.heap.size wy wx)
            case first =>
              have HBO : Hid (∀ w', Below wy.heap.size wy w' → (fun w' => Below wy.heap.size wy w' ∧ (load44 (.pointer (some ⟨w.heap.size, 0, none⟩))).run Try.prog w' = .ok (.agg (cellsC c m)) w') w') := Lib.hid (fun w' hb => ⟨hb, (HRW.out.keep hb).load44⟩)
              go_region_held3 (fun w' => Below wy.heap.size wy w' ∧ (load44 (.pointer (some ⟨w.heap.size, 0, none⟩))).run Try.prog w' = .ok (.agg (cellsC c m)) w') (first | assumption | exact HBO.out _ HD0.out | exact HBO.out _ HD1.out | exact HBO.out _ (below_setRow (And.left ‹_›) (Nat.le_refl _) _) | exact HBO.out _ (Below.alloc (And.left ‹_›) (Below.size (And.left ‹_›)) _) | go_keep)
                (first | (go_at_call 18; refine (within_any _ 100 _ (by decide) (by decide)).mono ?_; rintro e w9 ⟨rfl, rfl⟩; rw [← HU.out]) | (go_at_call 36; (with_reducible refine C0.out.mono ?_); rintro e w9 ⟨rfl, hb9⟩; have hS := HBO.out _ (HD0.out.trans (hb9.mono HD0.out.size))) | (go_at_call 36; (with_reducible refine C1.out.mono ?_); rintro e w9 ⟨rfl, hb9⟩; have hst := (HZ1.out.keep hb9).store44 zeroC none 0 0; have hS := HBO.out _ (HD1.out.trans (hb9.mono HD1.out.size))))
              all_goals go_wp2
              all_goals go_meet
              all_goals first
                | exact ⟨rfl, rfl, (HD0.out.trans (hb9.mono HD0.out.size)).alloc (HD0.out.trans (hb9.mono HD0.out.size)).size _⟩
                | exact ⟨rfl, rfl, below_setRow (HD1.out.trans (hb9.mono HD1.out.size)) (Nat.le_refl _) _⟩
            case rest =>
              obtain ⟨rfl, rfl, hbc⟩ := hcut
              have HBz := Lib.hid (HBy.out.trans (hbc.mono HBy.out.size))
              have HRz := Lib.hid (HRy.out.keep hbc)
              have HM8z := Lib.hid (HM8.out.keep hbc)
              have HR8z := Lib.hid (HR8.out.keep hbc)
              have p8 : wc.cell? ⟨b8, 3, none⟩ = some (.int .i64 (bits .andNot .i64 c.caps N)) := by rw [← HDC.out]; exact HR8z.out.cell 3
              have hg1 : (bits .andNot .i64 (bits .andNot .i64 c.caps N) c.caps != 0) = false := by rw [HF1.out.1]; rfl
              have hg2 : (bits .and .i64 (bits .andNot .i64 c.caps N) N != 0) = false := by rw [HF1.out.2]; rfl
              clear hbc C0 C1 HZ1 HD0 HD1 HSZ
              go_upto_region 11 with fail
              go_quiet (first | (go_at_call 18; refine Calls.quiet_of_same (HWQ.out _)))
              clear p8 hg1 hg2
              have hl8 := fun mm => (HR8z.out.keep (below_drewN (Below.refl _ _) mm)).load44
              have hs8 := fun mm => (HRz.out.keep (below_drewN (Below.refl _ _) mm)).store44 d a8 nd k8
              have HE8 := Lib.hid (fun mm => (HRz.out.keep (below_drewN (Below.refl wc.heap.size _) mm)).setRow (cellsC d (.slice a8 nd k8)))
              have HG8 := Lib.hid (fun mm => (HM8z.out.keep (below_drewN (Below.refl wc.heap.size _) mm)).setRow (cellsC d (.slice a8 nd k8)))
              have HEB := Lib.hid (fun (C : Array Value) mm => below_setRow (below_drewN HBz.out mm) (Nat.le_refl _) C)
              go_wp2
              go_roundw
              case rel => exact ⟨i + 1, d, .slice a8 nd k8, hlen, by go_num, HEB.out _ _, HE8.out _, HG8.out _⟩
              case measure => simp [intOf]; omega
      · have HCZ := Lib.hid hz
        have C0 := Lib.hid (drop_bad (HMW.out.keep (Below.refl _ _).drew).at hz HN2.out.1 HN2.out.2)
        have C1 := Lib.hid (drop_bad (HMW.out.keep ((Below.refl _ _).alloc (Nat.le_refl _) (.cells (cellsC zeroC nilS) 44)).drew).at hz HN2.out.1 HN2.out.2)
        have HZ1 := Lib.hid ((row_new wr 44 (cellsC zeroC nilS)).keep (Below.refl _ _).drew)
        have HD0 := Lib.hid (show Below wr.heap.size wr wr.drew from (Below.refl _ _).drew)
        have HD1 := Lib.hid (show Below wr.heap.size wr (wr.alloc (.cells (cellsC zeroC nilS) 44)).drew from ((Below.refl _ _).alloc (Nat.le_refl _) _).drew)
        have HSZ := Lib.hid (show (wr.alloc (.cells (cellsC zeroC nilS) 44)).drew.heap.size = wr.heap.size + 1 from by show (wr.alloc (.cells (cellsC zeroC nilS) 44)).heap.size = _; simp)
        have hzz : (chkC c != 0) = true := by simpa using hz
        obtain ⟨z, hzc⟩ : ∃ z, chkC c = z := ⟨_, rfl⟩
        rw [hzc] at C0 C1 hzz
        have HZC := Lib.hid hzc
        clear hz hzc
        go_cut [8, 9, 16] from 16 to 75 (fun s8 s9 s16 wx => s16 = .int .i64 i ∧ s9 = .int .i64 z ∧ Below wr.heap.size wr wx)
        case first =>
          have HBO : Hid (∀ w', Below wr.heap.size wr w' → (fun w' => Below wr.heap.size wr w' ∧ (load44 (.pointer (some ⟨w.heap.size, 0, none⟩))).run Try.prog w' = .ok (.agg (cellsC c m)) w') w') := Lib.hid (fun w' hb => ⟨hb, (HRW.out.keep hb).load44⟩)
          go_region_held3 (fun w' => Below wr.heap.size wr w' ∧ (load44 (.pointer (some ⟨w.heap.size, 0, none⟩))).run Try.prog w' = .ok (.agg (cellsC c m)) w') (first | assumption | exact HBO.out _ HD0.out | exact HBO.out _ HD1.out | exact HBO.out _ (below_setRow (And.left ‹_›) (Nat.le_refl _) _) | exact HBO.out _ (Below.alloc (And.left ‹_›) (Below.size (And.left ‹_›)) _) | go_keep)
            (first | (go_at_call 18; refine (within_any x 128 _ (by decide) (by decide)).mono ?_; rintro e w9 ⟨rfl, rfl⟩; rw [← HN.out]) | (go_at_call 34; (with_reducible refine C0.out.mono ?_); rintro e w9 ⟨rfl, hb9⟩; have hS := HBO.out _ (HD0.out.trans (hb9.mono HD0.out.size))) | (go_at_call 34; (with_reducible refine C1.out.mono ?_); rintro e w9 ⟨rfl, hb9⟩; have hst := (HZ1.out.keep hb9).store44 zeroC none 0 0; have hS := HBO.out _ (HD1.out.trans (hb9.mono HD1.out.size))))
          all_goals go_wp2
          all_goals go_meet
          all_goals first
            | exact ⟨rfl, rfl, (HD0.out.trans (hb9.mono HD0.out.size)).alloc (HD0.out.trans (hb9.mono HD0.out.size)).size _⟩
            | exact ⟨rfl, rfl, below_setRow (HD1.out.trans (hb9.mono HD1.out.size)) (Nat.le_refl _) _⟩
        case rest =>
          obtain ⟨rfl, rfl, hbc⟩ := hcut
          have HBy := Lib.hid (HBW.out.trans (hbc.mono HBW.out.size))
          have hl2 := (HRW.out.keep hbc).load44
          have HCK := Lib.hid (check_c (HMW.out.keep hbc).at)
          rw [HZC.out] at HCK
          clear hbc
          go_wp2_with fail
          refine HCK.out.mono ?_
          rintro e w9 ⟨rfl, hb9⟩
          have HBz := Lib.hid (HBy.out.trans (hb9.mono HBy.out.size))
          clear hb9 hl2
          go_wp2
          go_ret
          exact ⟨rfl, HBz.out⟩
    · obtain rfl : i = n := by omega
      go_wp2
      go_ret
      exact ⟨rfl, HBW.out⟩
end Go.Proofs.Ytddfgdodpjmjfaa.CredLaw
