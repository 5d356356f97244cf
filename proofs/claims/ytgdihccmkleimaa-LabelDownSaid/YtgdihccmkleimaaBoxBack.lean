/- The walks of ringkeep5.boxes and ringkeep5.BoxBack. -/
import Derived.Test.YtgdihccmkleimaaBoxTo
import Derived.Test.YtgdihccmkleimaaBase
namespace Go.Proofs.Ytgdihccmkleimaa.BoxLaw
open Go.RowKit

theorem lies_one (w : World) (a b n : Int) : Lies (w.alloc (.cells #[.int .i64 a, .int .i64 b, .int .i64 n] 99)) w.heap.size 0 [⟨a, b, n⟩] := by
  refine ⟨by simp, ?_, ?_, ?_⟩ <;> intro i hi <;> (obtain rfl : i = 0 := by simpa using hi) <;> simp

theorem boxes_any (w : World) : Calls Try.prog 18 #[] w fun e w' => e = .returned (.bool true) ∧ Below w.heap.size w w' := by
  have hr : toR [⟨0, 50, 10⟩] 3 = (53, 0) := by decide
  have HR := Lib.hid hr
  clear hr
  go_enter Try.func18, Try.ntmps18
  go_wp2_with fail
  refine (to_some w.heap.size 0 1 [⟨0, 50, 10⟩] 3 _ (Nat.le_refl _) (lies_one w 0 50 10)).mono ?_
  rintro e w1 ⟨rfl, hb1⟩
  rw [HR.out]
  go_wp2
  go_ret
  exact ⟨rfl, ((Below.refl _ _).alloc (Nat.le_refl _) _).trans (hb1.mono (by simp))⟩

theorem boxback_any {w : World} {v : Value} {l : List Rg} (a b : Int) (h : IsL w v l) :
    Calls Try.prog 4 #[v, .int .i64 a, .int .i64 b] w fun e w' => e = .returned (.bool true) ∧ Below w.heap.size w w' := by
  have hlaw := back_law l a b
  obtain ⟨xa, hxa⟩ : ∃ x, x = toR l a := ⟨_, rfl⟩
  obtain ⟨xb, hxb⟩ : ∃ x, x = toR l b := ⟨_, rfl⟩
  have HI := Lib.hid h
  rw [← hxa, ← hxb] at hlaw
  obtain ⟨xf, hxf⟩ : ∃ x, x = fromR l xa.1 := ⟨_, rfl⟩
  rw [← hxf] at hlaw
  have A := Lib.hid hxa
  have B := Lib.hid hxb
  have F := Lib.hid hxf
  clear h hxa hxb hxf
  obtain ⟨x, e⟩ := xa
  obtain ⟨y, f⟩ := xb
  obtain ⟨n, g⟩ := xf
  simp only at hlaw
  rcases hlaw with ⟨h1, h2⟩ | ⟨h1, h2, h3, h4⟩
  · have hne : (e != 0) = true := by simpa using h1
    have hz : (x == 0) = true := by simpa using h2
    clear h1 h2
    go_enter Try.func4, Try.ntmps4
    go_wp2_with fail
    refine (boxes_any _).mono ?_
    rintro e w1 ⟨rfl, hb1⟩
    go_wp2_with fail
    refine (to_is _ (HI.out.below hb1)).mono ?_
    rintro e w2 ⟨rfl, hb2⟩
    rw [← A.out]
    have hb12 := hb1.trans (hb2.mono hb1.size)
    go_wp2_with fail
    refine (to_is _ (HI.out.below hb12)).mono ?_
    rintro e w3 ⟨rfl, hb3⟩
    rw [← B.out]
    have hb123 := hb12.trans (hb3.mono hb12.size)
    go_wp2
    go_ret
    exact ⟨rfl, hb123⟩
  · obtain rfl := h3
    have hne : (e != 0) = false := by simpa using h1
    have hg : (g == 0) = true := by simpa using h2
    have hn : (n == n) = true := by simp
    have hcase : (f != 0) = true ∨ ((f != 0) = false ∧ (x == y) = true ∧ (n == b) = true) ∨ ((f != 0) = false ∧ (x == y) = false ∧ (n == b) = false) := by
      rcases h4 with h | h
      · exact .inl (by simpa using h)
      · by_cases hf : f = 0
        · by_cases hxy : x = y
          · exact .inr (.inl ⟨by simpa using hf, by simpa using hxy, by simpa using h.1 hxy⟩)
          · exact .inr (.inr ⟨by simpa using hf, by simpa using hxy, by simp; exact fun q => hxy (h.2 q)⟩)
        · exact .inl (by simpa using hf)
    clear h1 h2 h4
    rcases hcase with hf | ⟨hf, hxy, hab⟩ | ⟨hf, hxy, hab⟩
    all_goals
      go_enter Try.func4, Try.ntmps4
      go_wp2_with fail
      refine (boxes_any _).mono ?_
      rintro e w1 ⟨rfl, hb1⟩
      go_wp2_with fail
      refine (to_is _ (HI.out.below hb1)).mono ?_
      rintro e w2 ⟨rfl, hb2⟩
      rw [← A.out]
      have hb12 := hb1.trans (hb2.mono hb1.size)
      go_wp2_with fail
      refine (to_is _ (HI.out.below hb12)).mono ?_
      rintro e w3 ⟨rfl, hb3⟩
      rw [← B.out]
      have hb123 := hb12.trans (hb3.mono hb12.size)
      go_wp2_with fail
      refine (from_is _ (HI.out.below hb123)).mono ?_
      rintro e w4 ⟨rfl, hb4⟩
      rw [← F.out]
      have hb1234 := hb123.trans (hb4.mono hb123.size)
      clear hb1 hb12 hb123 hb2 hb3 hb4
      go_wp2
      go_ret
      exact ⟨rfl, hb1234⟩


theorem int_of {v : Value} {t : TypeId} (h : Plain Try.prog t v) (ht : t = 3) : ∃ n : Int, v = .int .i64 n ∧ -9223372036854775808 ≤ n ∧ n ≤ 9223372036854775807 := by
  subst ht
  rcases h with ⟨_, h⟩ | ⟨h, _⟩
  · exact h
  · rw [Try.underlying3] at h; cases h

theorem isL_of_rows {fs : Array Field} {w : World} {v : Value} {len : Nat} {F : Nat → Nat → Value} (hs : fs.size = 3) (ht : ∀ (j : Nat) (f : Field), fs[j]? = some f → f.type = 3) (h : RowsIn Try.prog fs w v len F) : ∃ l, IsL w v l := by
  obtain ⟨a, cap, rfl, hl, hm, h⟩ := h
  rcases h with h0 | ⟨b, off, rfl, hb, hc⟩
  · subst h0; exact ⟨[], a, cap, rfl, hl, .inl rfl⟩
  · have get : ∀ i, i < len → ∀ j, j < 3 → ∃ n : Int, w.cell? ⟨b, off + i * 3 + j, none⟩ = some (.int .i64 n) := by
      intro i hi j hj
      have hf : fs[j]? = some (fs[j]'(by omega)) := Array.getElem?_eq_getElem (by omega)
      obtain ⟨h1, h2⟩ := hc i hi j _ hf
      obtain ⟨n, hn, _⟩ := int_of h2 (ht j _ hf)
      rw [hs, hn] at h1
      exact ⟨n, h1⟩
    obtain ⟨A, hA⟩ := Go.Deep.choose_lt (fun i hi => get i hi 0 (by omega))
    obtain ⟨B, hB⟩ := Go.Deep.choose_lt (fun i hi => get i hi 1 (by omega))
    obtain ⟨C, hC⟩ := Go.Deep.choose_lt (fun i hi => get i hi 2 (by omega))
    refine ⟨(List.range len).map fun i => ⟨A i, B i, C i⟩, some ⟨b, off, none⟩, cap, by simp, by simpa using hl, .inr ⟨b, off, rfl, hb, ?_, ?_, ?_⟩⟩ <;> intro i hi <;> simp at hi
    · simpa [List.getD, hi] using hA i hi
    · simpa [List.getD, hi] using hB i hi
    · simpa [List.getD, hi] using hC i hi
end Go.Proofs.Ytgdihccmkleimaa.BoxLaw
