/- The walk of irq.Serve. -/
import Derived.Test.YtddfgdodpjmjfaaIrqServePlain
namespace Go.Proofs.Ytddfgdodpjmjfaa.IrqLaw
open Go.RowKit
set_option linter.unusedVariables false

/-- a whole struct of four cells stored into its block -/
theorem set4 {w : World} {b : Nat} {T : TypeId} {x y z t a c d e : Value} (h : w.heap[b]? = some (.cells #[x, y, z, t] T)) :
    ((((w.setCell ⟨b, 0, none⟩ a).setCell ⟨b, 1, none⟩ c).setCell ⟨b, 2, none⟩ d).setCell ⟨b, 3, none⟩ e).heap[b]? = some (.cells #[a, c, d, e] T) := by
  have h1 := heap_setCell_same w b 0 _ T a h
  have h2 := heap_setCell_same _ b 1 _ T c h1
  have h3 := heap_setCell_same _ b 2 _ T d h2
  have h4 := heap_setCell_same _ b 3 _ T e h3
  simpa using h4
theorem below_set4 {w0 w : World} {B b : Nat} {a c d e : Value} (h : Below B w0 w) (hb : B ≤ b) :
    Below B w0 ((((w.setCell ⟨b, 0, none⟩ a).setCell ⟨b, 1, none⟩ c).setCell ⟨b, 2, none⟩ d).setCell ⟨b, 3, none⟩ e) :=
  (((h.setCell hb _).setCell hb _).setCell hb _).setCell hb _

theorem min_le' {a b : Int} (h : a ≤ b) : (if b < a then b else a) = a := if_neg (by omega)

set_option maxRecDepth 100000 in
set_option maxHeartbeats 6000000 in
theorem serve_some (ba oa bb ob bc oc ca cb cc : Nat) (had news : List Int) (rings : List Bool) (w : World) (hlen : had.length = news.length) (hlen2 : rings.length = news.length) (h64 : news.length ≤ 64) (hne : 0 < news.length)
    (hA : ba < w.heap.size) (hB : bb < w.heap.size) (hC : bc < w.heap.size)
    (hca : ∀ i, i < news.length → w.cell? ⟨ba, oa + i, none⟩ = some (.int .i64 (had.getD i 0))) (hcb : ∀ i, i < news.length → w.cell? ⟨bb, ob + i, none⟩ = some (.int .i64 (news.getD i 0))) (hcc : ∀ i, i < news.length → w.cell? ⟨bc, oc + i, none⟩ = some (.bool (rings.getD i false))) :
    Calls Try.prog 28 #[.slice (some ⟨ba, oa, none⟩) had.length ca, .slice (some ⟨bb, ob, none⟩) news.length cb, .slice (some ⟨bc, oc, none⟩) rings.length cc] w fun e w' =>
      e = .returned (.tuple #[.int .i64 (serveR had news rings).1, .int .i64 (serveR had news rings).2.1, .int .i64 (serveR had news rings).2.2]) ∧ Below w.heap.size w w' := by
  obtain ⟨n, hn⟩ : ∃ n, n = news.length := ⟨_, rfl⟩
  have HL1 := Lib.hid hlen
  have HL2 := Lib.hid hlen2
  have HSV : Hid (serveR had news rings = outS (serveGo s0 news had rings)) := by show _ = _; rw [serveR, if_pos ⟨hlen, hlen2, h64⟩]
  rw [hlen, hlen2]
  rw [← hn] at h64 hne hca hcb hcc ⊢
  have HN := Lib.hid hn
  have HCA := Lib.hid hca
  have HCB := Lib.hid hcb
  have HCC := Lib.hid hcc
  clear hn hca hcb hcc hlen hlen2
  have e1 : ((n : Int) != (n : Int)) = false := by simp
  go_enter Try.func28, Try.ntmps28
  go_wp2
  go_loopw [9, 10, 38] (fun qv dv iv wr => ∃ (k : Nat) (s : St), k ≤ n ∧ iv = .int .i64 k ∧ qv = .int .i64 s.q ∧ dv = .int .i64 s.d ∧ 0 ≤ s.q ∧ s.q ≤ 100 * k ∧ 0 ≤ s.d ∧ s.d ≤ 100 * k ∧ Hid (Fit s) ∧ Below w.heap.size w wr ∧ w.heap.size < wr.heap.size ∧
      Hid (wr.heap[w.heap.size]? = some (.cells #[.int .i64 1, .int .i64 s.u, .int .i64 0, .int .i64 s.p] 57)) ∧ Hid (serveGo s0 news had rings = serveGo s (news.drop k) (had.drop k) (rings.drop k)))
    (fun _ _ iv _ => n - (intOf iv).toNat)
  case atStart => exact ⟨0, s0, Nat.zero_le _, rfl, rfl, rfl, by decide, by decide, by decide, by decide, ⟨.inl rfl, .inl rfl⟩, (Below.refl _ _).alloc (Nat.le_refl _) _, by simp, heap_alloc_new w _, rfl⟩
  case round =>
    obtain ⟨k, s, hk, rfl, rfl, rfl, q0, q1, d0, d1, HF, hbel, hsz, HBK, HG⟩ := hrel
    by_cases hlt : k < n
    · obtain ⟨x, hx⟩ : ∃ x, x = news.getD k 0 := ⟨_, rfl⟩
      obtain ⟨y, hy⟩ : ∃ y, y = had.getD k 0 := ⟨_, rfl⟩
      obtain ⟨r, hr⟩ : ∃ r, r = rings.getD k false := ⟨_, rfl⟩
      have g1 := (hbel.cell (p := ⟨ba, oa + k, none⟩) hA).trans (HCA.out k hlt)
      have g2 := (hbel.cell (p := ⟨bb, ob + k, none⟩) hB).trans (HCB.out k hlt)
      have g3 := (hbel.cell (p := ⟨bc, oc + k, none⟩) hC).trans (HCC.out k hlt)
      rw [← hy] at g1
      rw [← hx] at g2
      rw [← hr] at g3
      have HX := Lib.hid hx
      have HY := Lib.hid hy
      have HR := Lib.hid hr
      clear hx hy hr
      by_cases hin : within x && within y
      · have hin1 := (Bool.and_eq_true _ _ ▸ hin).1
        have hin2 := (Bool.and_eq_true _ _ ▸ hin).2
        obtain ⟨x0, x1⟩ := (within_iff x).1 hin1
        obtain ⟨y0, y1⟩ := (within_iff y).1 hin2
        have HSTEP : Hid (serveGo s0 news had rings = serveGo (stepS s x y r) (news.drop (k + 1)) (had.drop (k + 1)) (rings.drop (k + 1))) := by
          have := HG.out.trans (go_next (s := s) (by rw [← HN.out]; exact hlt) HL1.out HL2.out (by rw [← HX.out]; exact hin1) (by rw [← HY.out]; exact hin2))
          rw [← HX.out, ← HY.out, ← HR.out] at this
          exact this
        have HF' := Lib.hid (step_fit HF.out x y r)
        clear hin hin1 hin2
        cases r
        · rcases HF.out.hp with hp | hp
          · have HS : Hid (stepS s x y false = ⟨s.u, 0, s.q + x, s.d⟩) := by show _ = _; rw [stepS, if_neg (by show ¬ s.p = 1; rw [hp]; decide)]; show (⟨s.u, s.p, s.q + x, s.d⟩ : St) = _; rw [hp]
            have HBK' : Hid (wr.heap[w.heap.size]? = some (.cells #[.int .i64 1, .int .i64 s.u, .int .i64 0, .int .i64 0] 57)) := by have := HBK.out; rw [hp] at this; exact this
            clear HBK hp
            obtain ⟨c0, c1, c2, c3, z⟩ := cells4 HBK'.out
            go_wp2_with fail
            refine (take_any ⟨1, s.u, 0, 0⟩ _).mono ?_
            rintro e w5 ⟨rfl, hb5⟩
            rw [T0e HF.out.hu]
            have HB5 := Lib.hid ((hb5.block w.heap.size hsz).trans HBK'.out)
            have hbel5 := hbel.trans (hb5.mono hbel.size)
            have hsz5 := Nat.lt_of_lt_of_le hsz hb5.size
            clear c0 c1 c2 c3 z hb5 hbel hsz HBK'
            go_wp2
            go_roundw
            case rel => exact ⟨k + 1, ⟨s.u, 0, s.q + x, s.d⟩, by omega, by go_num, by go_num, by go_num, by show 0 ≤ s.q + x; omega, by show s.q + x ≤ _; omega, by show 0 ≤ s.d; omega, by show s.d ≤ _; omega, by rw [HS.out] at HF'; exact HF', hbel5.alloc hbel5.size _, by simp; omega, (Below.heap_alloc w5 _ _ hsz5).trans HB5.out, by rw [← HS.out]; exact HSTEP⟩
            case measure => simp [intOf]; omega
          · have HBK' : Hid (wr.heap[w.heap.size]? = some (.cells #[.int .i64 1, .int .i64 s.u, .int .i64 0, .int .i64 1] 57)) := by have := HBK.out; rw [hp] at this; exact this
            have HP := Lib.hid hp
            clear HBK hp
            obtain ⟨c0, c1, c2, c3, z⟩ := cells4 HBK'.out
            go_wp2_with fail
            refine (take_any ⟨1, s.u, 0, 1⟩ _).mono ?_
            rintro e w5 ⟨rfl, hb5⟩
            rw [T1 HF.out.hu, T1k HF.out.hu, T1e HF.out.hu]
            have HB5 := Lib.hid ((hb5.block w.heap.size (by simpa using hsz)).trans HBK'.out)
            have hbel5 := hbel.trans (hb5.mono (by simpa using hbel.size))
            have hsz5 : w.heap.size < w5.heap.size := Nat.lt_of_lt_of_le hsz (by have := hb5.size; simpa using this)
            have g1' := (hbel5.cell (p := ⟨ba, oa + k, none⟩) hA).trans (HCA.out k hlt)
            rw [← HY.out] at g1'
            clear c0 c1 c2 c3 z hb5 hbel hsz HBK' g1
            have HB6 := Lib.hid (set4 (a := .int .i64 1) (c := .int .i64 s.u) (d := .int .i64 0) (e := .int .i64 0) HB5.out)
            have hbel6 := below_set4 (a := .int .i64 1) (c := .int .i64 s.u) (d := .int .i64 0) (e := .int .i64 0) hbel5 (Nat.le_refl _)
            have HB7 := Lib.hid ((Below.heap_alloc _ (.cells #[.int .i64 1, .int .i64 s.u, .int .i64 0, .int .i64 0] 57) _ (by simpa using hsz5)).trans HB6.out)
            have hbel7 := hbel6.alloc hbel6.size (.cells #[.int .i64 1, .int .i64 s.u, .int .i64 0, .int .i64 0] 57)
            have hbel8 := (hbel6.setCell (p := ⟨w.heap.size, 3, none⟩) (Nat.le_refl _) (.int .i64 1)).alloc (by simpa using hbel6.size) (.cells #[.int .i64 1, .int .i64 s.u, .int .i64 0, .int .i64 0] 57)
            have HB8 : Hid ((((((((w5.setCell ⟨w.heap.size, 0, none⟩ (.int .i64 1)).setCell ⟨w.heap.size, 1, none⟩ (.int .i64 s.u)).setCell ⟨w.heap.size, 2, none⟩ (.int .i64 0)).setCell ⟨w.heap.size, 3, none⟩ (.int .i64 0)).setCell ⟨w.heap.size, 3, none⟩ (.int .i64 1)).alloc (.cells #[.int .i64 1, .int .i64 s.u, .int .i64 0, .int .i64 0] 57))).heap[w.heap.size]? = some (.cells #[.int .i64 1, .int .i64 s.u, .int .i64 0, .int .i64 1] 57)) := (Below.heap_alloc _ (.cells #[.int .i64 1, .int .i64 s.u, .int .i64 0, .int .i64 0] 57) _ (by simpa using hsz5)).trans (by have := heap_setCell_same _ w.heap.size 3 _ 57 (.int .i64 1) HB6.out; simpa using this)
            have g7 := (hbel7.cell (p := ⟨ba, oa + k, none⟩) hA).trans (HCA.out k hlt)
            rw [← HY.out] at g7
            clear g1'
            obtain ⟨c0, c1, c2, c3, z⟩ := cells4 HB5.out
            by_cases hle : s.q + x ≤ y
            · have HS : Hid (stepS s x y false = ⟨s.u, 0, 0, s.d + (s.q + x)⟩) := by show _ = _; rw [stepS, if_pos (by exact HP.out), if_pos hle]; rfl
              go_wp2
              go_roundw
              case rel => exact ⟨k + 1, ⟨s.u, 0, 0, s.d + (s.q + x)⟩, by omega, by go_num, by go_num, by go_num, by show (0 : Int) ≤ 0; omega, by show (0 : Int) ≤ _; omega, by show 0 ≤ s.d + (s.q + x); omega, by show s.d + (s.q + x) ≤ _; omega, by rw [HS.out] at HF'; exact HF', hbel7, by simp; omega, HB7, by rw [← HS.out]; exact HSTEP⟩
              case measure => simp [intOf]; omega
            · have HS : Hid (stepS s x y false = ⟨s.u, 1, s.q + x - y, s.d + y⟩) := by show _ = _; rw [stepS, if_pos (by exact HP.out), if_neg hle]; rfl
              have hor : bits .or .i64 0 1 = 1 := by decide
              obtain ⟨f0, f1, f2, f3, zz⟩ := cells4 HB7.out
              go_wp2
              go_roundw
              case rel => exact ⟨k + 1, ⟨s.u, 1, s.q + x - y, s.d + y⟩, by omega, by go_num, by go_num, by go_num, by show 0 ≤ s.q + x - y; omega, by show s.q + x - y ≤ _; omega, by show 0 ≤ s.d + y; omega, by show s.d + y ≤ _; omega, by rw [HS.out] at HF'; exact HF', hbel8, by simp; omega, HB8, by rw [← HS.out]; exact HSTEP⟩
              case measure => simp [intOf]; omega
        · obtain ⟨c0, c1, c2, c3, z⟩ := cells4 HBK.out
          go_wp2_with fail
          refine (set_any ⟨1, s.u, 0, s.p⟩ 0 false _).mono ?_
          rintro e w2 ⟨rfl, hb2⟩
          rw [S1 HF.out.hu HF.out.hp, S1e HF.out.hu HF.out.hp]
          have HB2 := Lib.hid ((hb2.block w.heap.size hsz).trans HBK.out)
          have hbel2 := hbel.trans (hb2.mono hbel.size)
          have hsz2 := Nat.lt_of_lt_of_le hsz hb2.size
          clear c0 c1 c2 c3 z hb2 hbel hsz HBK
          obtain ⟨c0, c1, c2, c3, z⟩ := cells4 HB2.out
          have HB3 := Lib.hid (set4 (a := .int .i64 1) (c := .int .i64 0) (d := .int .i64 0) (e := .int .i64 s.p) HB2.out)
          have hbel3 := below_set4 (a := .int .i64 1) (c := .int .i64 0) (d := .int .i64 0) (e := .int .i64 s.p) hbel2 (Nat.le_refl _)
          go_wp2_with fail
          refine (set_any ⟨1, 0, 0, s.p⟩ 0 true _).mono ?_
          rintro e w4 ⟨rfl, hb4⟩
          rw [S2 HF.out.hp, S1e (.inl rfl) HF.out.hp]
          have HB4 := Lib.hid ((hb4.block w.heap.size (by simpa using hsz2)).trans HB3.out)
          have hbel4 := hbel3.trans (hb4.mono (by simpa using hbel2.size))
          have hsz4 : w.heap.size < w4.heap.size := Nat.lt_of_lt_of_le hsz2 (by have := hb4.size; simpa using this)
          clear c0 c1 c2 c3 z hb4 hbel2 hsz2 HB2 HB3 hbel3
          obtain ⟨c0, c1, c2, c3, z⟩ := cells4 HB4.out
          have HB4' := Lib.hid (set4 (a := .int .i64 1) (c := .int .i64 1) (d := .int .i64 0) (e := .int .i64 1) HB4.out)
          have hbel4' := below_set4 (a := .int .i64 1) (c := .int .i64 1) (d := .int .i64 0) (e := .int .i64 1) hbel4 (Nat.le_refl _)
          have hsz4' : w.heap.size < ((((w4.setCell ⟨w.heap.size, 0, none⟩ (.int .i64 1)).setCell ⟨w.heap.size, 1, none⟩ (.int .i64 1)).setCell ⟨w.heap.size, 2, none⟩ (.int .i64 0)).setCell ⟨w.heap.size, 3, none⟩ (.int .i64 1)).heap.size := by simpa using hsz4
          clear hbel4 hsz4
          obtain ⟨d0', d1', d2', d3', z'⟩ := cells4 HB4'.out
          go_wp2_with fail
          clear d0' d1' d2' d3' z'
          refine (take_any ⟨1, 1, 0, 1⟩ _).mono ?_
          rintro e w5 ⟨rfl, hb5⟩
          rw [T1 (.inr rfl), T1k (.inr rfl), T1e (.inr rfl)]
          have HB5 := Lib.hid ((hb5.block w.heap.size (by simpa using hsz4')).trans HB4'.out)
          have hbel5 := hbel4'.trans (hb5.mono (by simpa using hbel4'.size))
          have hsz5 : w.heap.size < w5.heap.size := Nat.lt_of_lt_of_le hsz4' (by have := hb5.size; simpa using this)
          have g1' := (hbel5.cell (p := ⟨ba, oa + k, none⟩) hA).trans (HCA.out k hlt)
          rw [← HY.out] at g1'
          clear c0 c1 c2 c3 z hb5 hbel4' hsz4' HB4' g1
          have HB6 := Lib.hid (set4 (a := .int .i64 1) (c := .int .i64 1) (d := .int .i64 0) (e := .int .i64 0) HB5.out)
          have hbel6 := below_set4 (a := .int .i64 1) (c := .int .i64 1) (d := .int .i64 0) (e := .int .i64 0) hbel5 (Nat.le_refl _)
          have HB7 := Lib.hid ((Below.heap_alloc _ (.cells #[.int .i64 1, .int .i64 1, .int .i64 0, .int .i64 0] 57) _ (by simpa using hsz5)).trans HB6.out)
          have hbel7 := hbel6.alloc hbel6.size (.cells #[.int .i64 1, .int .i64 1, .int .i64 0, .int .i64 0] 57)
          have hbel8 := (hbel6.setCell (p := ⟨w.heap.size, 3, none⟩) (Nat.le_refl _) (.int .i64 1)).alloc (by simpa using hbel6.size) (.cells #[.int .i64 1, .int .i64 1, .int .i64 0, .int .i64 0] 57)
          have HB8 : Hid ((((((((w5.setCell ⟨w.heap.size, 0, none⟩ (.int .i64 1)).setCell ⟨w.heap.size, 1, none⟩ (.int .i64 1)).setCell ⟨w.heap.size, 2, none⟩ (.int .i64 0)).setCell ⟨w.heap.size, 3, none⟩ (.int .i64 0)).setCell ⟨w.heap.size, 3, none⟩ (.int .i64 1)).alloc (.cells #[.int .i64 1, .int .i64 1, .int .i64 0, .int .i64 0] 57))).heap[w.heap.size]? = some (.cells #[.int .i64 1, .int .i64 1, .int .i64 0, .int .i64 1] 57)) := (Below.heap_alloc _ (.cells #[.int .i64 1, .int .i64 1, .int .i64 0, .int .i64 0] 57) _ (by simpa using hsz5)).trans (by have := heap_setCell_same _ w.heap.size 3 _ 57 (.int .i64 1) HB6.out; simpa using this)
          have g7 := (hbel7.cell (p := ⟨ba, oa + k, none⟩) hA).trans (HCA.out k hlt)
          rw [← HY.out] at g7
          clear g1'
          obtain ⟨c0, c1, c2, c3, z⟩ := cells4 HB5.out
          by_cases hle : s.q + x ≤ y
          · have HS : Hid (stepS s x y true = ⟨1, 0, 0, s.d + (s.q + x)⟩) := by show _ = _; rw [stepS, if_pos (by rfl), if_pos hle]; rfl
            go_wp2
            go_roundw
            case rel => exact ⟨k + 1, ⟨1, 0, 0, s.d + (s.q + x)⟩, by omega, by go_num, by go_num, by go_num, by show (0 : Int) ≤ 0; omega, by show (0 : Int) ≤ _; omega, by show 0 ≤ s.d + (s.q + x); omega, by show s.d + (s.q + x) ≤ _; omega, by rw [HS.out] at HF'; exact HF', hbel7, by simp; omega, HB7, by rw [← HS.out]; exact HSTEP⟩
            case measure => simp [intOf]; omega
          · have HS : Hid (stepS s x y true = ⟨1, 1, s.q + x - y, s.d + y⟩) := by show _ = _; rw [stepS, if_pos (by rfl), if_neg hle]; rfl
            have hor : bits .or .i64 0 1 = 1 := by decide
            obtain ⟨f0, f1, f2, f3, zz⟩ := cells4 HB7.out
            go_wp2
            go_roundw
            case rel => exact ⟨k + 1, ⟨1, 1, s.q + x - y, s.d + y⟩, by omega, by go_num, by go_num, by go_num, by show 0 ≤ s.q + x - y; omega, by show s.q + x - y ≤ _; omega, by show 0 ≤ s.d + y; omega, by show s.d + y ≤ _; omega, by rw [HS.out] at HF'; exact HF', hbel8, by simp; omega, HB8, by rw [← HS.out]; exact HSTEP⟩
            case measure => simp [intOf]; omega
      · have hb' : (within x && within y) = false := by simpa using hin
        have HO : Hid (serveGo s0 news had rings = none) := by
          have := HG.out.trans (go_bad (s := s) (by rw [← HN.out]; exact hlt) HL1.out HL2.out (by rw [← HX.out, ← HY.out]; exact hb'))
          exact this
        have hcase : x < 0 ∨ (0 ≤ x ∧ 100 < x) ∨ ((0 ≤ x ∧ x ≤ 100) ∧ y < 0) ∨ ((0 ≤ x ∧ x ≤ 100) ∧ 0 ≤ y ∧ 100 < y) := by
          simp [within] at hb'; omega
        clear hin hb'
        rcases hcase with hc | hc | hc | hc
        all_goals
          go_wp2
          go_ret3
          rw [HSV.out, HO.out]
          exact ⟨rfl, hbel⟩
    · obtain rfl : k = n := by omega
      go_wp2
      go_ret3
      rw [HSV.out, HG.out, HN.out, go_end]
      exact ⟨rfl, hbel⟩
end Go.Proofs.Ytddfgdodpjmjfaa.IrqLaw
