/- The walks of package cred: Has, Drop, Become; creds. -/
import Derived.Test.YtjkephmfpoekgaaCredDrop
namespace Go.Proofs.Ytjkephmfpoekgaa.CredLaw
open Go.RowKit
set_option linter.unusedVariables false
set_option linter.unusedSimpArgs false
attribute [local go_sem ↓] load44_eq store44_eq zero44 cellsC_of
attribute [local go_sem] store44_new load44_new
theorem check_c {w : World} {m : Value} {c : C} (hm : At (Value.int .i64) 0 w m c.xs) :
    Calls Try.prog 15 #[.agg (cellsC c m)] w fun e w' => e = .returned (.int .i64 (chkC c)) ∧ Below w.heap.size w w' := check_is ⟨m, rfl, hm⟩
/-- two boxes of a call's own -/
structure Duo (w w1 : World) (b d : Nat) (x y : Array Value) : Prop where
  B : Below w.heap.size w w1
  R : Row w1 b 24 x
  Z : Row w1 d 24 y
  hb : w.heap.size ≤ b
  hd : w.heap.size ≤ d
  ne : b ≠ d
theorem duo_new (w : World) (c : C) (m : Value) : Duo w ((w.alloc (.cells (cellsC c m) 24)).alloc (.cells (cellsC zeroC nilS) 24)) w.heap.size (w.heap.size + 1) (cellsC c m) (cellsC zeroC nilS) :=
  ⟨Go.Joins.below_alloc2 _ _ _, (row_new w 24 _).alloc _, by have := row_new (w.alloc (.cells (cellsC c m) 24)) 24 (cellsC zeroC nilS); rw [World.size_alloc] at this; exact this, Nat.le_refl _, by omega, by omega⟩
section
variable {w w1 w2 : World} {b d : Nat} {x y : Array Value}
theorem Duo.keep (h : Duo w w1 b d x y) (hb : Below w1.heap.size w1 w2) : Duo w w2 b d x y := ⟨h.B.trans (hb.mono h.B.size), h.R.keep hb, h.Z.keep hb, h.hb, h.hd, h.ne⟩
theorem Duo.drew (h : Duo w w1 b d x y) : Duo w w1.drew b d x y := h.keep (Below.refl _ _).drew
theorem Duo.setB (h : Duo w w1 b d x y) (x' : Array Value) : Duo w (w1.setRow b x') b d x' y := ⟨below_setRow h.B h.hb _, h.R.setRow _, h.Z.setRowO h.ne _, h.hb, h.hd, h.ne⟩
theorem Duo.setD (h : Duo w w1 b d x y) (y' : Array Value) : Duo w (w1.setRow d y') b d x y' := ⟨below_setRow h.B h.hd _, h.R.setRowO h.ne.symm _, h.Z.setRow _, h.hb, h.hd, h.ne⟩
theorem Duo.setC (h : Duo w w1 b d x y) {i : Nat} {v : Value} {x' : Array Value} (he : x.setIfInBounds i v = x') : Duo w (w1.setCell ⟨b, i, none⟩ v) b d x' y := ⟨h.B.setCell h.hb _, h.R.setC he, h.Z.setO h.ne _, h.hb, h.hd, h.ne⟩
end
/-- what Become does with a credential that is right -/
def becR (c : C) (u : Int) : Option C := if u ≠ c.user ∧ bits .and .i64 c.caps 8 = 0 then none else some { c with user := u, caps := if u ≠ 0 then 0 else c.caps }
theorem becR_some {c : C} {u : Int} (h : u = c.user ∨ bits .and .i64 c.caps 8 ≠ 0) : becR c u = some { c with user := u, caps := if u ≠ 0 then 0 else c.caps } := by
  rw [becR, if_neg (by rintro ⟨h1, h2⟩; rcases h with h | h; exact h1 h; exact h h2)]
theorem becR_none {c : C} {u : Int} (h1 : u ≠ c.user) (h2 : bits .and .i64 c.caps 8 = 0) : becR c u = none := by
  rw [becR, if_pos ⟨h1, h2⟩]
def BecPost (c : C) (u : Int) (w : World) (e : Ending) (w' : World) : Prop :=
  Below w.heap.size w w' ∧ ((∃ c' a k, becR c u = some c' ∧ e = .returned (.tuple #[.agg (cellsC c' (.slice a c'.xs.length k)), .int .i64 0]) ∧ Own w' w.heap.size (.slice a c'.xs.length k) c'.xs) ∨ (becR c u = none ∧ e = .returned (.tuple #[.agg (cellsC zeroC nilS), .int .i64 7])))
set_option maxRecDepth 100000 in
set_option maxHeartbeats 400000 in
theorem become_is {w : World} {m : Value} {c : C} {u : Int} (hm : At (Value.int .i64) 0 w m c.xs) (hz : chkC c = 0) (h0 : 0 ≤ u) (h1 : u ≤ 99) :
    Calls Try.prog 10 #[.agg (cellsC c m), .int .i64 u] w (BecPost c u w) := by
  have HD := Lib.hid (duo_new w c m)
  have HM := Lib.hid (hm.keep HD.out.B)
  have HH := Lib.hid (check_c HM.out)
  have HL := Lib.hid (((chkC_zero c).1 hz).2.1)
  have hl := HD.out.R.load44
  rw [hz] at HH
  clear hm hz
  go_enter Try.func10, Try.ntmps10
  go_wp2_with fail
  refine HH.out.mono ?_
  rintro e w1 ⟨rfl, hb1⟩
  have HD1 := Lib.hid (HD.out.keep hb1)
  have HM1 := Lib.hid (HM.out.keep hb1)
  clear hb1 hl
  have p0 : w1.cell? ⟨w.heap.size, 0, none⟩ = some (.int .i64 c.user) := HD1.out.R.cell 0
  have p3 : w1.cell? ⟨w.heap.size, 3, none⟩ = some (.int .i64 c.caps) := HD1.out.R.cell 3
  by_cases hbad : u ≠ c.user ∧ bits .and .i64 c.caps 8 = 0
  · have HN := Lib.hid (becR_none hbad.1 hbad.2)
    have q1 : (u != c.user) = true := by simpa using hbad.1
    have q2 : (bits .and .i64 c.caps 8 == 0) = true := by simpa using hbad.2
    have hst := HD1.out.Z.store44 zeroC none 0 0
    clear hbad
    go_wp2
    exact bodyPost_ret (v := .tuple #[.agg (cellsC zeroC nilS), .int .i64 7]) (by rw [results_cell_tmp rfl]; simp [asAddr, Result.andThen, (HD1.out.setD (cellsC zeroC nilS)).Z.loadVar44]) rfl ⟨(HD1.out.setD _).B, .inr ⟨HN.out, rfl⟩⟩
  · have hok : u = c.user ∨ bits .and .i64 c.caps 8 ≠ 0 := by
      by_cases h : u = c.user
      · exact .inl h
      · exact .inr (fun h2 => hbad ⟨h, h2⟩)
    have HN := Lib.hid (becR_some hok)
    have hq : (u != c.user) = false ∨ ((u != c.user) = true ∧ (bits .and .i64 c.caps 8 == 0) = false) := by
      by_cases h : u = c.user
      · exact .inl (by simp [h])
      · exact .inr ⟨by simpa using h, by rcases hok with h2 | h2; exact absurd h2 h; simpa using h2⟩
    have HC := Lib.hid (copied_is (by have := HL.out; omega) HM1.out)
    have hl := HD1.out.R.load44
    clear hbad hok
    have hu : u = 0 ∨ u ≠ 0 := by omega
    rcases hq with q1 | ⟨q1, q2⟩
    · go_wp2_with fail
      refine HC.out.mono ?_
      rintro e w2 ⟨a, k, rfl, hown, hb2⟩
      have HS2 := Lib.hid hb2.size
      have HD2 := Lib.hid (HD1.out.keep hb2)
      have hst := HD2.out.R.store44 c a c.xs.length k
      have HD3 := Lib.hid (HD2.out.setB (cellsC c (.slice a c.xs.length k)))
      have c3 : (w2.setRow w.heap.size (cellsC c (.slice a c.xs.length k))).cell? ⟨w.heap.size, 3, none⟩ = some (.int .i64 c.caps) := HD3.out.R.cell 3
      have c0 : (w2.setRow w.heap.size (cellsC c (.slice a c.xs.length k))).cell? ⟨w.heap.size, 0, none⟩ = some (.int .i64 c.user) := HD3.out.R.cell 0
      have f3 := HD3.out.R.fz 3
      have f0 := HD3.out.R.fz 0
      have HO := Lib.hid hown
      clear hb2 hown hl p0 p3
      rcases hu with rfl | hu
      · obtain ⟨c', hc'⟩ : ∃ c' : C, c' = { c with user := 0, caps := c.caps } := ⟨_, rfl⟩
        have hx : c'.xs = c.xs := by rw [hc']
        have HD4 : Hid (Duo w ((w2.setRow w.heap.size (cellsC c (.slice a c.xs.length k))).setCell ⟨w.heap.size, 0, none⟩ (.int .i64 0)) w.heap.size (w.heap.size + 1) (cellsC c' (.slice a c.xs.length k)) (cellsC zeroC nilS)) := Lib.hid (HD3.out.setC (by rw [hc']; rfl))
        have hl4 := HD4.out.R.load44
        have hst4 := HD4.out.Z.store44 c' a c.xs.length k
        have HX := Lib.hid hx
        have HCC := Lib.hid hc'
        clear hx hc'
        go_wp2
        refine bodyPost_ret (v := .tuple #[.agg (cellsC c' (.slice a c.xs.length k)), .int .i64 0]) (by rw [results_cell_tmp rfl]; simp [asAddr, Result.andThen, (HD4.out.setD (cellsC c' (.slice a c.xs.length k))).Z.loadVar44]) rfl ⟨(HD4.out.setD _).B, .inl ⟨c', a, k, by rw [HN.out, HCC.out]; rfl, by rw [HX.out], ?_⟩⟩
        rw [HX.out]
        refine Own.of (B' := w.heap.size) HO.out (by have := HD1.out.B.size; omega) (fun g hg => ?_)
        have := HD1.out.Z.lt
        rw [setRow_heap _ _ _ _ (by omega), Below.heap_setCell _ _ _ _ (by show g ≠ w.heap.size; omega), setRow_heap _ _ _ _ (by omega)]
      · have hu' : (u != 0) = true := by simpa using hu
        obtain ⟨c', hc'⟩ : ∃ c' : C, c' = { c with user := u, caps := 0 } := ⟨_, rfl⟩
        have hx : c'.xs = c.xs := by rw [hc']
        have HD4 : Hid (Duo w (((w2.setRow w.heap.size (cellsC c (.slice a c.xs.length k))).setCell ⟨w.heap.size, 3, none⟩ (.int .i64 0)).setCell ⟨w.heap.size, 0, none⟩ (.int .i64 u)) w.heap.size (w.heap.size + 1) (cellsC c' (.slice a c.xs.length k)) (cellsC zeroC nilS)) := Lib.hid ((HD3.out.setC (x' := cellsC { c with caps := 0 } (.slice a c.xs.length k)) rfl).setC (by rw [hc']; rfl))
        have hl4 := HD4.out.R.load44
        have hst4 := HD4.out.Z.store44 c' a c.xs.length k
        have HX := Lib.hid hx
        have HCC := Lib.hid hc'
        have HU := Lib.hid hu
        clear hx hc' hu
        go_wp2
        refine bodyPost_ret (v := .tuple #[.agg (cellsC c' (.slice a c.xs.length k)), .int .i64 0]) (by rw [results_cell_tmp rfl]; simp [asAddr, Result.andThen, (HD4.out.setD (cellsC c' (.slice a c.xs.length k))).Z.loadVar44]) rfl ⟨(HD4.out.setD _).B, .inl ⟨c', a, k, by rw [HN.out, HCC.out, if_pos HU.out], by rw [HX.out], ?_⟩⟩
        rw [HX.out]
        refine Own.of (B' := w.heap.size) HO.out (by have := HD1.out.B.size; omega) (fun g hg => ?_)
        have := HD1.out.Z.lt
        rw [setRow_heap _ _ _ _ (by omega), Below.heap_setCell _ _ _ _ (by show g ≠ w.heap.size; omega), Below.heap_setCell _ _ _ _ (by show g ≠ w.heap.size; omega), setRow_heap _ _ _ _ (by omega)]
    · go_wp2_with fail
      refine HC.out.mono ?_
      rintro e w2 ⟨a, k, rfl, hown, hb2⟩
      have HS2 := Lib.hid hb2.size
      have HD2 := Lib.hid (HD1.out.keep hb2)
      have hst := HD2.out.R.store44 c a c.xs.length k
      have HD3 := Lib.hid (HD2.out.setB (cellsC c (.slice a c.xs.length k)))
      have c3 : (w2.setRow w.heap.size (cellsC c (.slice a c.xs.length k))).cell? ⟨w.heap.size, 3, none⟩ = some (.int .i64 c.caps) := HD3.out.R.cell 3
      have c0 : (w2.setRow w.heap.size (cellsC c (.slice a c.xs.length k))).cell? ⟨w.heap.size, 0, none⟩ = some (.int .i64 c.user) := HD3.out.R.cell 0
      have f3 := HD3.out.R.fz 3
      have f0 := HD3.out.R.fz 0
      have HO := Lib.hid hown
      clear hb2 hown hl p0 p3
      rcases hu with rfl | hu
      · obtain ⟨c', hc'⟩ : ∃ c' : C, c' = { c with user := 0, caps := c.caps } := ⟨_, rfl⟩
        have hx : c'.xs = c.xs := by rw [hc']
        have HD4 : Hid (Duo w ((w2.setRow w.heap.size (cellsC c (.slice a c.xs.length k))).setCell ⟨w.heap.size, 0, none⟩ (.int .i64 0)) w.heap.size (w.heap.size + 1) (cellsC c' (.slice a c.xs.length k)) (cellsC zeroC nilS)) := Lib.hid (HD3.out.setC (by rw [hc']; rfl))
        have hl4 := HD4.out.R.load44
        have hst4 := HD4.out.Z.store44 c' a c.xs.length k
        have HX := Lib.hid hx
        have HCC := Lib.hid hc'
        clear hx hc'
        go_wp2
        refine bodyPost_ret (v := .tuple #[.agg (cellsC c' (.slice a c.xs.length k)), .int .i64 0]) (by rw [results_cell_tmp rfl]; simp [asAddr, Result.andThen, (HD4.out.setD (cellsC c' (.slice a c.xs.length k))).Z.loadVar44]) rfl ⟨(HD4.out.setD _).B, .inl ⟨c', a, k, by rw [HN.out, HCC.out]; rfl, by rw [HX.out], ?_⟩⟩
        rw [HX.out]
        refine Own.of (B' := w.heap.size) HO.out (by have := HD1.out.B.size; omega) (fun g hg => ?_)
        have := HD1.out.Z.lt
        rw [setRow_heap _ _ _ _ (by omega), Below.heap_setCell _ _ _ _ (by show g ≠ w.heap.size; omega), setRow_heap _ _ _ _ (by omega)]
      · have hu' : (u != 0) = true := by simpa using hu
        obtain ⟨c', hc'⟩ : ∃ c' : C, c' = { c with user := u, caps := 0 } := ⟨_, rfl⟩
        have hx : c'.xs = c.xs := by rw [hc']
        have HD4 : Hid (Duo w (((w2.setRow w.heap.size (cellsC c (.slice a c.xs.length k))).setCell ⟨w.heap.size, 3, none⟩ (.int .i64 0)).setCell ⟨w.heap.size, 0, none⟩ (.int .i64 u)) w.heap.size (w.heap.size + 1) (cellsC c' (.slice a c.xs.length k)) (cellsC zeroC nilS)) := Lib.hid ((HD3.out.setC (x' := cellsC { c with caps := 0 } (.slice a c.xs.length k)) rfl).setC (by rw [hc']; rfl))
        have hl4 := HD4.out.R.load44
        have hst4 := HD4.out.Z.store44 c' a c.xs.length k
        have HX := Lib.hid hx
        have HCC := Lib.hid hc'
        have HU := Lib.hid hu
        clear hx hc' hu
        go_wp2
        refine bodyPost_ret (v := .tuple #[.agg (cellsC c' (.slice a c.xs.length k)), .int .i64 0]) (by rw [results_cell_tmp rfl]; simp [asAddr, Result.andThen, (HD4.out.setD (cellsC c' (.slice a c.xs.length k))).Z.loadVar44]) rfl ⟨(HD4.out.setD _).B, .inl ⟨c', a, k, by rw [HN.out, HCC.out, if_pos HU.out], by rw [HX.out], ?_⟩⟩
        rw [HX.out]
        refine Own.of (B' := w.heap.size) HO.out (by have := HD1.out.B.size; omega) (fun g hg => ?_)
        have := HD1.out.Z.lt
        rw [setRow_heap _ _ _ _ (by omega), Below.heap_setCell _ _ _ _ (by show g ≠ w.heap.size; omega), Below.heap_setCell _ _ _ _ (by show g ≠ w.heap.size; omega), setRow_heap _ _ _ _ (by omega)]
end Go.Proofs.Ytjkephmfpoekgaa.CredLaw
