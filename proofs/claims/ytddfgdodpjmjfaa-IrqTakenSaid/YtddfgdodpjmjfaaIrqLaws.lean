/- The walks of ringkeep5.lines, IrqAll, IrqTaken. -/
import Derived.Test.YtddfgdodpjmjfaaIrqServe
import Derived.Test.YtddfgdodpjmjfaaIrqLawPlain
namespace Go.Proofs.Ytddfgdodpjmjfaa.IrqLaw
open Go.RowKit
set_option linter.unusedVariables false

theorem serve_is {w : World} {va vb vc : Value} {had news : List Int} {rings : List Bool} (hA : At (Value.int .i64) 0 w va had) (hB : At (Value.int .i64) 0 w vb news) (hC : At Value.bool false w vc rings) :
    Calls Try.prog 28 #[va, vb, vc] w fun e w' =>
      e = .returned (.tuple #[.int .i64 (serveR had news rings).1, .int .i64 (serveR had news rings).2.1, .int .i64 (serveR had news rings).2.2]) ∧ Below w.heap.size w w' := by
  obtain ⟨a, ca, rfl, hla, hma, ha⟩ := hA
  obtain ⟨b, cb, rfl, hlb, hmb, hb⟩ := hB
  obtain ⟨c, cc, rfl, hlc, hmc, hc⟩ := hC
  by_cases h : had.length = news.length ∧ rings.length = news.length ∧ news.length ≤ 64
  · obtain ⟨h1, h2, h3⟩ := h
    by_cases h0 : 0 < news.length
    · rcases ha with ha | ⟨ba, oa, rfl, hlta, hca⟩
      · rw [ha] at h1; simp at h1; omega
      rcases hb with hb | ⟨bb, ob, rfl, hltb, hcb⟩
      · rw [hb] at h0; simp at h0
      rcases hc with hc | ⟨bc, oc, rfl, hltc, hcc⟩
      · rw [hc] at h2; simp at h2; omega
      exact serve_some ba oa bb ob bc oc ca cb cc had news rings w h1 h2 h3 h0 hlta hltb hltc (fun i hi => hca i (by omega)) hcb (fun i hi => hcc i (by omega))
    · have e1 : news = [] := List.eq_nil_of_length_eq_zero (by omega)
      subst e1
      have e2 : had = [] := List.eq_nil_of_length_eq_zero (by simpa using h1)
      have e3 : rings = [] := List.eq_nil_of_length_eq_zero (by simpa using h2)
      subst e2 e3
      have hS : serveR [] [] [] = (0, 0, 0) := rfl
      have HS := Lib.hid hS
      clear h1 h2 h3 h0 ha hb hc hS
      simp only [List.length_nil]
      go_enter Try.func28, Try.ntmps28
      go_wp2
      refine wp_loop_rounds 1 ?_
      rw [rounds_succ]
      go_wp2
      go_ret3
      rw [HS.out]
      exact ⟨rfl, (Below.refl _ _).alloc (Nat.le_refl _) _⟩
  · have HS : Hid (serveR had news rings = (0, 0, 3)) := by show _ = _; rw [serveR, if_neg h]
    obtain ⟨n1, hn1⟩ : ∃ n, n = had.length := ⟨_, rfl⟩
    obtain ⟨n2, hn2⟩ : ∃ n, n = news.length := ⟨_, rfl⟩
    obtain ⟨n3, hn3⟩ : ∃ n, n = rings.length := ⟨_, rfl⟩
    simp only [maxLen] at hma hmb hmc
    rw [← hn1, ← hn2, ← hn3] at h
    rw [← hn1] at hla ⊢
    rw [← hn2] at hlb ⊢
    rw [← hn3] at hlc ⊢
    clear hn1 hn2 hn3 ha hb hc
    have hcase : (((n1 : Int) != (n2 : Int)) = true) ∨ (((n1 : Int) != (n2 : Int)) = false ∧ ((n3 : Int) != (n2 : Int)) = true) ∨ (((n1 : Int) != (n2 : Int)) = false ∧ ((n3 : Int) != (n2 : Int)) = false ∧ 64 < n2) := by
      by_cases h1 : n1 = n2
      · by_cases h2 : n3 = n2
        · exact .inr (.inr ⟨by simp [h1], by simp [h2], by omega⟩)
        · exact .inr (.inl ⟨by simp [h1], by simp; omega⟩)
      · exact .inl (by simp; omega)
    clear h
    rcases hcase with h | ⟨h, h'⟩ | ⟨h, h', h''⟩
    all_goals
      go_enter Try.func28, Try.ntmps28
      go_wp2
      go_ret3
      rw [HS.out]
      exact ⟨rfl, Below.refl _ _⟩

theorem lines_any (w : World) : Calls Try.prog 27 #[] w fun e w' => e = .returned (.bool true) ∧ Below w.heap.size w w' := by
  have h1 : setR ⟨2, 0, 0, 0⟩ 1 true = ⟨2, 2, 0, 2⟩ := rfl
  have h2 : (lineR ⟨2, 0, 0, 0⟩ 1).2 = 0 := rfl
  have h3 : nextR ⟨2, 2, 0, 2⟩ = (1, 0) := rfl
  have h4 : serveR [0, 5] [3, 0] [true, false] = (3, 0, 0) := rfl
  have H1 := Lib.hid h1
  have H2 := Lib.hid h2
  have H3 := Lib.hid h3
  have H4 := Lib.hid h4
  clear h1 h2 h3 h4
  go_enter Try.func27, Try.ntmps27
  go_wp2_with fail
  refine (set_any ⟨2, 0, 0, 0⟩ 1 true _).mono ?_
  rintro e w1 ⟨rfl, hb1⟩
  rw [H1.out, H2.out]
  go_wp2_with fail
  refine (next_any ⟨2, 2, 0, 2⟩ _).mono ?_
  rintro e w2 ⟨rfl, hb2⟩
  rw [H3.out]
  have hb12 := (hb1.alloc hb1.size _).trans (hb2.mono (by have := hb1.size; simp; omega))
  clear hb1 hb2
  go_wp2_with fail
  have A := ((at_new (f := Value.int .i64) (d := 0) w2 [0, 5] 3 (by decide)).keep ((Below.refl _ _).alloc (Nat.le_refl _) (.cells #[.int .i64 3, .int .i64 0] 3))).keep ((Below.refl _ _).alloc (Nat.le_refl _) (.cells #[.bool true, .bool false] 4))
  have B := (at_new (f := Value.int .i64) (d := 0) (w2.alloc (.cells #[.int .i64 0, .int .i64 5] 3)) [3, 0] 3 (by decide)).keep ((Below.refl _ _).alloc (Nat.le_refl _) (.cells #[.bool true, .bool false] 4))
  have C := at_new (f := Value.bool) (d := false) ((w2.alloc (.cells #[.int .i64 0, .int .i64 5] 3)).alloc (.cells #[.int .i64 3, .int .i64 0] 3)) [true, false] 4 (by decide)
  simp only [World.size_alloc] at B C
  refine (serve_is A B C).mono ?_
  rintro e w3 ⟨rfl, hb3⟩
  rw [H4.out]
  clear A B C
  have hb123 := (((hb12.alloc hb12.size (.cells #[.int .i64 0, .int .i64 5] 3)).alloc (by have := hb12.size; simp; omega) (.cells #[.int .i64 3, .int .i64 0] 3)).alloc (by have := hb12.size; simp; omega) (.cells #[.bool true, .bool false] 4)).trans (hb3.mono (by have := hb12.size; simp; omega))
  clear hb3 hb12
  go_wp2_with fail
  refine (good_any _ 3 [0, 0, 0] _ (by simp) ?_).mono ?_
  · intro i hi
    match i, hi with
    | 0, _ => simp
    | 1, _ => simp
    | 2, _ => simp
  rintro e w4 ⟨rfl, rfl⟩
  go_wp2
  go_ret
  exact ⟨rfl, hb123.alloc hb123.size _⟩
end Go.Proofs.Ytddfgdodpjmjfaa.IrqLaw
