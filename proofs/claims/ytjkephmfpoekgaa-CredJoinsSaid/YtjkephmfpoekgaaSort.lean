/- slices.Sort of at most five ints, of which all but the last are in order: the last one is put in its place. -/
import Derived.Test.YtjkephmfpoekgaaBase
import Derived.Test.YtjkephmfpoekgaaCommon
import Derived.WalkSmall
import Derived.BigQuiet
import Derived.BigRegion
namespace Go.Proofs.Ytjkephmfpoekgaa.SortLaw
open Go.RowKit
set_option linter.unusedVariables false
set_option linter.unusedSimpArgs false
/-- x put at place j -/
def put (xs : List Int) (x : Int) (j : Nat) : List Int := xs.take j ++ x :: xs.drop j
theorem put_length (xs : List Int) (x : Int) (j : Nat) : (put xs x j).length = xs.length + 1 := by
  simp [put]; omega
theorem put_at (xs : List Int) (x : Int) {j : Nat} (h : j ≤ xs.length) : (put xs x j).getD j 0 = x := by
  simp [put, List.getD, List.getElem?_append, Nat.min_eq_left h]
theorem put_low (xs : List Int) (x : Int) {j i : Nat} (h : j ≤ xs.length) (hi : i < j) : (put xs x j).getD i 0 = xs.getD i 0 := by
  have hil : i < xs.length := by omega
  simp [put, List.getD, List.getElem?_append, Nat.min_eq_left h, hi, hil, List.getElem?_take]
theorem put_high (xs : List Int) (x : Int) {j i : Nat} (h : j ≤ xs.length) (hi : j < i) : (put xs x j).getD i 0 = xs.getD (i - 1) 0 := by
  have e : i - j = (i - j - 1) + 1 := by omega
  simp only [put, List.getD]
  rw [List.getElem?_append_right (by simp; omega)]
  simp only [List.length_take, Nat.min_eq_left h]
  rw [e, List.getElem?_cons_succ, List.getElem?_drop, show j + (i - j - 1) = i - 1 by omega]
theorem set_same {w : World} {b i : Nat} {v u : Value} (h : w.cell? ⟨b, i, none⟩ = some u) : (w.setCell ⟨b, i, none⟩ v).cell? ⟨b, i, none⟩ = some v := by
  simp [go_sem, h]
/-- the cells of a list in block b -/
def Cells (w : World) (b : Nat) (l : List Int) : Prop := b < w.heap.size ∧ (∀ i, w.frozen? ⟨b, i, none⟩ = false) ∧ ∀ i, i < l.length → w.cell? ⟨b, i, none⟩ = some (.int .i64 (l.getD i 0))
/-- all blocks but b are as they were -/
abbrev KB (b : Nat) (w w' : World) : Prop := w.grownBy w' (some b)
theorem KB.trans {b : Nat} {u w w' : World} (h : KB b u w) (k : KB b w w') : KB b u w' :=
  ⟨k.os.trans h.os, k.tape.trans h.tape, k.output.trans h.output, Nat.le_trans h.size k.size, fun i hi hn => (k.block i (Nat.lt_of_lt_of_le hi h.size) hn).trans (h.block i hi hn)⟩
theorem KB.of {b : Nat} {w w' : World} (h : Below w.heap.size w w') : KB b w w' := ⟨h.os, h.tape, h.output, h.size, fun i hi _ => h.block i hi⟩
theorem KB.drewN {b : Nat} {u w : World} (h : KB b u w) (n : Nat) : KB b u (w.drewN n) := h.trans (KB.of (below_drewN (Below.refl _ _) n))
theorem KB.drew {b : Nat} {u w : World} (h : KB b u w) : KB b u w.drew := ⟨h.os, h.tape, h.output, h.size, h.block⟩
theorem KB.set {b i : Nat} {u w : World} (h : KB b u w) (v : Value) : KB b u (w.setCell ⟨b, i, none⟩ v) :=
  h.trans ⟨rfl, rfl, rfl, by simp [World.setCell], fun k hk hn => Below.heap_setCell _ _ _ _ (by intro e; exact hn (by rw [e]))⟩
section
variable {w : World} {b : Nat} {l : List Int}
theorem Cells.keep {w' : World} (h : Cells w b l) (hb : Below w.heap.size w w') : Cells w' b l :=
  ⟨Nat.lt_of_lt_of_le h.1 hb.size, fun i => (hb.frozen (p := ⟨b, i, none⟩) h.1).trans (h.2.1 i), fun i hi => (hb.cell (p := ⟨b, i, none⟩) h.1).trans (h.2.2 i hi)⟩
theorem Cells.drewN (h : Cells w b l) (n : Nat) : Cells (w.drewN n) b l := h.keep (below_drewN (Below.refl _ _) n)
theorem Cells.drew (h : Cells w b l) : Cells w.drew b l := h.keep (Below.refl _ _).drew
/-- the swap at j: x goes one place down -/
theorem Cells.swap {xs : List Int} {x : Int} {j : Nat} (h : Cells w b (put xs x (j + 1))) (hj : j + 1 ≤ xs.length) :
    Cells ((w.setCell ⟨b, j + 1, none⟩ (.int .i64 (xs.getD j 0))).setCell ⟨b, j, none⟩ (.int .i64 x)) b (put xs x j) := by
  have hl := put_length xs x (j + 1)
  refine ⟨by simpa using h.1, fun i => by rw [World.frozen?_setCell, World.frozen?_setCell]; exact h.2.1 i, fun i hi => ?_⟩
  rw [put_length] at hi
  have c : ∀ i, i < xs.length + 1 → w.cell? ⟨b, i, none⟩ = some (.int .i64 ((put xs x (j + 1)).getD i 0)) := fun i hi => h.2.2 i (by rw [hl]; exact hi)
  by_cases e : i = j
  · subst e
    rw [put_at _ _ (by omega)]
    have h1 : (w.setCell ⟨b, i + 1, none⟩ (.int .i64 (xs.getD i 0))).cell? ⟨b, i, none⟩ = w.cell? ⟨b, i, none⟩ := World.cell?_setCell_other _ _ _ _ (by intro e; have := congrArg Addr.off e; simp at this)
    have := c i (by omega)
    rw [← h1] at this
    exact set_same this
  · rw [World.cell?_setCell_other _ _ _ _ (by intro e2; exact e (by simpa using (congrArg Addr.off e2).symm))]
    by_cases e2 : i = j + 1
    · subst e2
      rw [put_high _ _ (by omega) (by omega), Nat.add_sub_cancel]
      exact set_same (c (j + 1) (by omega))
    · rw [World.cell?_setCell_other _ _ _ _ (by intro e3; exact e2 (by simpa using (congrArg Addr.off e3).symm)), c i hi]
      rcases Nat.lt_or_ge i j with q | q
      · rw [put_low _ _ (by omega) (by omega), put_low _ _ (by omega) q]
      · rw [put_high _ _ (by omega) (by omega), put_high _ _ (by omega) (by omega)]
end
theorem nan_is (x : Int) (w : World) : Calls Try.prog 40 #[.int .i64 x] w fun e w' => e = .returned (.bool false) ∧ w' = w := by
  go_enter Try.func40, Try.ntmps40
  go_wp2
  go_ret
  exact ⟨by simp, rfl⟩
theorem less_is (x y : Int) (w : World) : Calls Try.prog 30 #[.int .i64 x, .int .i64 y] w fun e w' => e = .returned (.bool (decide (x < y))) ∧ w' = w := by
  go_enter Try.func30, Try.ntmps30
  go_wp2_with fail
  refine (nan_is x _).mono ?_
  rintro e w1 ⟨rfl, rfl⟩
  go_wp2
  go_ret
  exact ⟨rfl, rfl⟩
/-- at place j the walk of x down stands still -/
def Still (xs : List Int) (x : Int) (j : Nat) : Prop := j ≤ xs.length ∧ (j = 0 ∨ ¬ x < xs.getD (j - 1) 0) ∧ ∀ i, j ≤ i → i < xs.length → x < xs.getD i 0
set_option maxRecDepth 100000 in
set_option maxHeartbeats 1000000 in
theorem ins_is {w : World} {b cap n L : Nat} {xs : List Int} {x : Int} (hn : xs.length = n) (hn4 : n ≤ 4) (hL : n + 1 = L) (ha : ∀ i, i + 1 < n → xs.getD i 0 < xs.getD (i + 1) 0) (h : Cells w b (put xs x n)) :
    Calls Try.prog 24 #[.slice (some ⟨b, 0, none⟩) L cap, .int .i64 0, .int .i64 L] w fun e w' => e = .returned (.tuple #[]) ∧ KB b w w' ∧ ∃ j, Still xs x j ∧ Cells w' b (put xs x j) := by
  have HA := Lib.hid ha
  have HN := Lib.hid hn
  have HC := Lib.hid h
  have HLL := Lib.hid (And.intro hL hn4)
  have hL5 : (L : Int) ≤ 5 := by omega
  clear ha h hn hL hn4
  go_enter Try.func24, Try.ntmps24
  go_wp2
  go_loopw [6] (fun iv wr => ∃ k : Nat, k ≤ n ∧ iv = .int .i64 ((k : Int) + 1) ∧ Hid (KB b w wr) ∧ Hid (k < n → Cells wr b (put xs x n)) ∧ Hid (k = n → ∃ j, Still xs x j ∧ Cells wr b (put xs x j))) (fun iv _ => L - (intOf iv).toNat)
  case atStart =>
    refine ⟨0, by omega, rfl, KB.of (Below.refl _ _), fun _ => HC.out, fun h0 => ?_⟩
    subst h0
    exact ⟨0, ⟨Nat.zero_le _, .inl rfl, fun i _ hi => by have := HN.out; omega⟩, HC.out⟩
  case round =>
    obtain ⟨k, hk, rfl, HK, HX, HY⟩ := hrel
    by_cases hlt : k < n
    · have hki : (k : Int) + 1 < (L : Int) := by have := HLL.out; omega
      have hki2 : (k : Int) < (L : Int) := by omega
      by_cases hlast : k + 1 < n
      · have HC1 := Lib.hid (HX.out hlt)
        have g1 := HC1.out.2.2 (k + 1) (by rw [put_length]; have := HN.out; omega)
        have g0 := HC1.out.2.2 k (by rw [put_length]; have := HN.out; omega)
        rw [put_low _ _ (by have := HN.out; omega) (by omega)] at g0 g1
        have hle : decide (xs.getD (k + 1) 0 < xs.getD k 0) = false := by have := HA.out k hlast; simp only [decide_eq_false_iff_not]; omega
        have hnl : ¬ xs.getD (k + 1) 0 < xs.getD k 0 := by simpa using hle
        have HLT := Lib.hid (And.intro hlt hlast)
        have hd : decide ((0 : Int) < (k : Int) + 1) = true := decide_eq_true (by omega)
        have hd2 : (0 : Int) < (k : Int) + 1 := by omega
        generalize xs.getD (k + 1) 0 = y1 at *
        generalize xs.getD k 0 = y0 at *
        have HLS := Lib.hid (fun w => by have := less_is y1 y0 w; rw [hle] at this; exact this)
        clear hlt hlast hle hnl
        go_wp2_with fail
        obtain ⟨wo, rfl⟩ : ∃ y : World, y = wr := ⟨_, rfl⟩
        go_loopw [7] (fun jv wx => jv = .int .i64 ((k : Int) + 1) ∧ wx = wo) (fun _ _ => 0)
        case atStart => exact ⟨rfl, rfl⟩
        case round =>
          obtain ⟨rfl, rfl⟩ := hrel
          go_wp2_with fail
          go_quiet (first | (go_at_call 30; refine Calls.quiet_of_same (HLS.out _)))
          go_wp2
          go_roundw
          case rel => exact ⟨k + 1, by have := HLT.out; omega, by go_num, HK.out.drewN _, fun _ => HC1.out.drewN _, fun h => by have := HLT.out; omega⟩
          case measure => have := HLL.out; first | (simp [intOf]; done) | (simp [intOf]; omega)
      · have HKN := Lib.hid (show n = k + 1 by omega)
        have HC1 := Lib.hid (HX.out hlt)
        rw [HKN.out] at HC1
        have HN2 := Lib.hid (show xs.length = k + 1 from HN.out.trans HKN.out)
        clear hlt hlast hk HX HY
        go_wp2_with fail
        obtain ⟨wo, rfl⟩ : ∃ y : World, y = wr := ⟨_, rfl⟩
        go_loopw [7] (fun jv wx => ∃ j : Nat, j ≤ k + 1 ∧ jv = .int .i64 j ∧ Hid (KB b w wx) ∧ Hid (Cells wx b (put xs x j)) ∧ Hid (∀ i, j ≤ i → i < xs.length → x < xs.getD i 0)) (fun jv _ => (intOf jv).toNat)
        case atStart => exact ⟨k + 1, Nat.le_refl _, by go_num, HK, HC1, fun i h1 h2 => by have := HN2.out; omega⟩
        case round =>
          obtain ⟨j, hj, rfl, HK2, HC2, HU⟩ := hrel
          cases j with
          | zero =>
            have hst := Lib.hid (show Still xs x 0 from ⟨Nat.zero_le _, .inl rfl, HU.out⟩)
            go_wp2_with fail
            go_quiet (first | (go_at_call 30; refine Calls.quiet_of_same (less_is _ _ _)))
            go_wp2
            go_roundw
            case rel => exact ⟨k + 1, by have := HKN.out; omega, by go_num, HK2.out.drewN _, fun h => by have := HKN.out; omega, fun _ => ⟨0, hst.out, HC2.out.drewN _⟩⟩
            case measure => have := HLL.out; first | (simp [intOf]; done) | (simp [intOf]; omega)
          | succ q =>
            have g1 := HC2.out.2.2 (q + 1) (by rw [put_length]; have := HN2.out; omega)
            have g0 := HC2.out.2.2 q (by rw [put_length]; have := HN2.out; omega)
            rw [put_at _ _ (by have := HN2.out; omega)] at g1
            rw [put_low _ _ (by have := HN2.out; omega) (by omega)] at g0
            have HQ := Lib.hid hj
            have HSW := Lib.hid (fun m => (HC2.out.drewN m).swap (by have := HN2.out; omega))
            have hd : decide ((0 : Int) < (q : Int) + 1) = true := decide_eq_true (by omega)
            have hd2 : (0 : Int) < (q : Int) + 1 := by omega
            have hqi : (q : Int) + 1 < (L : Int) := by omega
            have hqi2 : (q : Int) < (L : Int) := by omega
            have fz := HC2.out.2.1
            have HLO : Hid (x < xs.getD q 0 → ∀ i, q ≤ i → i < xs.length → x < xs.getD i 0) := Lib.hid (fun h i h1 h2 => by
              rcases Nat.lt_or_ge q i with h3 | h3
              · exact HU.out i h3 h2
              · obtain rfl : i = q := by omega
                exact h)
            have HST : Hid (¬ x < xs.getD q 0 → Still xs x (q + 1)) := Lib.hid (fun h => ⟨by have := HN2.out; have := HQ.out; omega, .inr h, HU.out⟩)
            generalize xs.getD q 0 = y0 at *
            by_cases hxy : x < y0
            · have hx2 : decide (x < y0) = true := by simpa using hxy
              have HXY := Lib.hid hxy
              have HLS := Lib.hid (fun w => by have := less_is x y0 w; rw [hx2] at this; exact this)
              clear hxy hx2
              go_wp2_with fail
              go_quiet (first | (go_at_call 30; refine Calls.quiet_of_same (HLS.out _)))
              go_wp2_with fail
              have fz' : ∀ m i, (wr.drewN m).frozen? ⟨b, i, none⟩ = false := fun m => (HC2.out.drewN m).2.1
              go_region
              go_wp2
              go_roundw
              case rel => exact ⟨q, by have := HQ.out; omega, by go_num, (HK2.out.drewN _).set _ |>.set _, HSW.out _, HLO.out HXY.out⟩
              case measure => have := HLL.out; first | (simp [intOf]; done) | (simp [intOf]; omega)
            · have hx2 : decide (x < y0) = false := by simpa using hxy
              have HXY := Lib.hid hxy
              have HLS := Lib.hid (fun w => by have := less_is x y0 w; rw [hx2] at this; exact this)
              clear hxy hx2
              go_wp2_with fail
              go_quiet (first | (go_at_call 30; refine Calls.quiet_of_same (HLS.out _)))
              go_wp2
              go_roundw
              case rel => exact ⟨k + 1, by have := HKN.out; omega, by go_num, HK2.out.drewN _, fun h => by have := HKN.out; omega, fun _ => ⟨q + 1, HST.out HXY.out, HC2.out.drewN _⟩⟩
              case measure => have := HLL.out; first | (simp [intOf]; done) | (simp [intOf]; omega)
    · obtain rfl : k = n := by omega
      obtain ⟨j, hs, hc⟩ := HY.out rfl
      have HS := Lib.hid (And.intro hs hc)
      have hki' : ¬ ((k : Int) + 1 < (L : Int)) := by have := HLL.out; omega
      clear hs hc
      go_wp2
      go_end0
      exact ⟨rfl, HK.out, j, HS.out.1, HS.out.2⟩
set_option maxRecDepth 1000000 in
set_option maxHeartbeats 1000000 in
/-- bits.Len of a small number ends -/
theorem len64_is {n : Nat} (hn : n ≤ 5) (w : World) : Calls Try.prog 34 #[.int .u64 n] w fun e w' => (∃ r : Int, e = .returned (.int .i64 r)) ∧ w' = w := by
  have : n = 0 ∨ n = 1 ∨ n = 2 ∨ n = 3 ∨ n = 4 ∨ n = 5 := by omega
  rcases this with rfl | rfl | rfl | rfl | rfl | rfl
  all_goals
    go_enter Try.func34, Try.ntmps34
    go_wp2
    go_ret
    exact ⟨⟨_, rfl⟩, rfl⟩
theorem len_is {n : Nat} (hn : n ≤ 5) (w : World) : Calls Try.prog 21 #[.int .u64 n] w fun e w' => (∃ r : Int, e = .returned (.int .i64 r)) ∧ w' = w := by
  have H := Lib.hid (len64_is hn w)
  go_enter Try.func21, Try.ntmps21
  go_wp2_with fail
  refine H.out.mono ?_
  rintro e w1 ⟨⟨r, rfl⟩, rfl⟩
  go_wp2
  go_ret
  exact ⟨⟨_, rfl⟩, rfl⟩
def SortPost (b : Nat) (xs : List Int) (x : Int) (w : World) (e : Ending) (w' : World) : Prop := e = .returned (.tuple #[]) ∧ KB b w w' ∧ ∃ j, Still xs x j ∧ Cells w' b (put xs x j)
set_option maxRecDepth 100000 in
set_option maxHeartbeats 1000000 in
theorem pdq_is {w : World} {b cap n L : Nat} {xs : List Int} {x r : Int} (hn : xs.length = n) (hn4 : n ≤ 4) (hL : n + 1 = L) (ha : ∀ i, i + 1 < n → xs.getD i 0 < xs.getD (i + 1) 0) (h : Cells w b (put xs x n)) :
    Calls Try.prog 20 #[.slice (some ⟨b, 0, none⟩) L cap, .int .i64 0, .int .i64 L, .int .i64 r] w (SortPost b xs x w) := by
  have HI := Lib.hid (ins_is (cap := cap) hn hn4 hL ha h)
  have hL12 : (L : Int) ≤ 12 := by omega
  clear hn ha h hL hn4
  go_enter Try.func20, Try.ntmps20
  go_wp2_with fail
  refine wp_loop_rounds 1 ?_
  all_goals (rw [rounds_succ])
  go_wp2_with fail
  refine HI.out.mono ?_
  rintro e w1 ⟨rfl, hk, hs⟩
  have HX := Lib.hid (And.intro hk hs)
  clear hk hs
  go_wp2
  go_end0
  exact ⟨rfl, HX.out.1, HX.out.2⟩
theorem sort_is {w : World} {b cap n L : Nat} {xs : List Int} {x : Int} (hn : xs.length = n) (hn4 : n ≤ 4) (hL : n + 1 = L) (ha : ∀ i, i + 1 < n → xs.getD i 0 < xs.getD (i + 1) 0) (h : Cells w b (put xs x n)) :
    Calls Try.prog 13 #[.slice (some ⟨b, 0, none⟩) L cap] w (SortPost b xs x w) := by
  have HI := Lib.hid (fun r => pdq_is (cap := cap) (r := r) hn hn4 hL ha h)
  have HLN := Lib.hid (len_is (n := L) (by omega) w)
  have hL5 : (L : Int) ≤ 5 := by omega
  clear hn ha h hL hn4
  go_enter Try.func13, Try.ntmps13
  go_wp2_with fail
  refine HLN.out.mono ?_
  rintro e w1 ⟨⟨r, rfl⟩, rfl⟩
  go_wp2_with fail
  refine (HI.out r).mono ?_
  rintro e w1 ⟨rfl, hk, hs⟩
  have HX := Lib.hid (And.intro hk hs)
  clear hk hs
  go_wp2
  go_end0
  exact ⟨rfl, HX.out.1, HX.out.2⟩
end Go.Proofs.Ytjkephmfpoekgaa.SortLaw
