/- The walker: its memory; the walks of top and may. -/
import Derived.Test.YtjkephmfpoekgaaDoorStatRow
import Derived.Deep.CutBlock
import Derived.StillTailTactics
namespace Go.Proofs.YtjkephmfpoekgaaDoor.PathLaw
open Go.RowKit Go.Proofs.YtjkephmfpoekgaaDoor.CredLaw
set_option linter.unusedVariables false
set_option linter.unusedSimpArgs false
/-- a walker in block b; W0: the world in which the way began -/
structure WK (W0 w : World) (b : Nat) (T : List Nd) (tv : Value) (c : C) (mv sv : Value) (lk : Int) : Prop where
  lt : b < w.heap.size
  c0 : w.cell? ⟨b, 0, none⟩ = some (.iface 24 tv)
  c1 : w.cell? ⟨b, 1, none⟩ = some (.slice none 0 0)
  c2 : w.cell? ⟨b, 2, none⟩ = some (.int .i64 c.user)
  c3 : w.cell? ⟨b, 3, none⟩ = some (.int .i64 c.group)
  c4 : w.cell? ⟨b, 4, none⟩ = some mv
  c5 : w.cell? ⟨b, 5, none⟩ = some (.int .i64 c.caps)
  c6 : w.cell? ⟨b, 6, none⟩ = some (.int .i64 c.level)
  c7 : w.cell? ⟨b, 7, none⟩ = some (.int .i64 c.kind)
  c8 : w.cell? ⟨b, 8, none⟩ = some sv
  c9 : w.cell? ⟨b, 9, none⟩ = some (.int .i64 lk)
  fz : ∀ j, w.frozen? ⟨b, j, none⟩ = false
  ba : Below W0.heap.size W0 w
  le : W0.heap.size ≤ b
  tr : TreeS W0 tv T
  mo : At (Value.int .i64) 0 W0 mv c.xs
theorem WK.keep {W0 w w' : World} {b : Nat} {T : List Nd} {tv : Value} {c : C} {mv sv : Value} {lk : Int} (h : WK W0 w b T tv c mv sv lk) (hb : Below w.heap.size w w') : WK W0 w' b T tv c mv sv lk := by
  have k : ∀ {o v}, w.cell? ⟨b, o, none⟩ = some v → w'.cell? ⟨b, o, none⟩ = some v := fun hc => (hb.cell (p := ⟨b, _, none⟩) h.lt).trans hc
  exact ⟨Nat.lt_of_lt_of_le h.lt hb.size, k h.c0, k h.c1, k h.c2, k h.c3, k h.c4, k h.c5, k h.c6, k h.c7, k h.c8, k h.c9, fun j => (hb.frozen (p := ⟨b, j, none⟩) h.lt).trans (h.fz j), h.ba.trans (hb.mono h.ba.size), h.le, h.tr, h.mo⟩
/-- a stack of the call's own -/
def StkO (w : World) (B : Nat) (v : Value) (st : List Int) : Prop := w.ownsRow B 3 1 v st.length (st.map (Value.int .i64))
theorem StkO.at {w : World} {B : Nat} {v : Value} {st : List Int} (h : StkO w B v st) : At (Value.int .i64) 0 w v st := at_of_owned h
theorem StkO.top {w : World} {B : Nat} {v : Value} {st : List Int} (h : StkO w B v st) (h0 : st ≠ []) : ∃ g cap, v = .slice (some ⟨g, 0, none⟩) st.length cap ∧ 0 < st.length ∧ st.length ≤ cap ∧ cap ≤ maxLen ∧ w.cell? ⟨g, st.length - 1, none⟩ = some (.int .i64 (topT st)) := by
  have hl : 0 < st.length := List.length_pos_iff.2 h0
  obtain ⟨a, cap, rfl⟩ := own_form h
  obtain ⟨g, rfl, _, _, h3, h4⟩ := own_block h hl
  refine ⟨g, cap, rfl, hl, h3, h4, ?_⟩
  have := h.cells (g := g) rfl (st.length - 1) (.int .i64 (topT st)) (by
    rw [List.getElem?_map, List.getElem?_eq_getElem (by omega)]
    simp only [topT, List.getD_eq_getElem?_getD, List.getElem?_eq_getElem (show st.length - 1 < st.length by omega), Option.map_some, Option.getD_some])
  rw [Addr.add_lit, Nat.zero_add] at this
  exact this
set_option maxRecDepth 100000 in
theorem top_is {W0 w : World} {b B : Nat} {T : List Nd} {tv : Value} {c : C} {mv sv : Value} {lk : Int} {st : List Int} (h : WK W0 w b T tv c mv sv lk) (hs : StkO w B sv st) (h0 : st ≠ []) : Calls Tryd.prog 24 #[.pointer (some ⟨b, 0, none⟩)] w fun e w' => e = .returned (.int .i64 (topT st)) ∧ ∃ k, w' = w.drewN k := by
  obtain ⟨g, cap, rfl, hl, h1, h2, h3⟩ := hs.top h0
  have c8 := h.c8
  have hmx : (cap : Int) ≤ 9223372036854775807 := by have : cap ≤ maxLen := h2; unfold maxLen at this; omega
  generalize topT st = t at *
  generalize hn : st.length = n at *
  have u0 : IntKind.i64.wrap ((n : Int) - 1) = ((n - 1 : Nat) : Int) := by rw [IntWalk.i64_in _ (by omega)]; omega
  have u1 : ((n - 1 : Nat) : Int).toNat = n - 1 := by omega
  have u2 : (0 : Int) ≤ ((n - 1 : Nat) : Int) := by omega
  have u3 : ((n - 1 : Nat) : Int) < (n : Int) := by omega
  clear hn h hs h0 h2
  go_enter Tryd.func24, Tryd.ntmps24
  go_wp2_with fail
  go_quiet (fail)
  go_wp2_with fail
  go_ret
  exact ⟨rfl, _, rfl⟩
/-- the plain tree as functions -/
def fsT (T : List Nd) : Fs := ⟨lookT T, tellsT T, statT T⟩
theorem stat_row {w : World} {v : Value} {T : List Nd} (n : Int) (h : TreeS w v T) : Calls Tryd.prog 10 #[v, .int .i64 n] w fun E w' => E = .returned (.tuple #[.agg (cellsS ((fsT T).stat n).1), .int .i64 ((fsT T).stat n).2]) ∧ Below w.heap.size w w' := stat_is n h
theorem method_stat (v : Value) (w : World) : (method 235 24 v "Stat").run Tryd.prog w = .ok (10, v) w := by kernel_rfl
theorem method_look (v : Value) (w : World) : (method 235 24 v "Look").run Tryd.prog w = .ok (78, v) w := by kernel_rfl
theorem method_tells (v : Value) (w : World) : (method 235 24 v "Tells").run Tryd.prog w = .ok (79, v) w := by kernel_rfl
theorem below_drewN_alloc (w : World) (k : Nat) (o : Obj) : Below w.heap.size w ((w.drewN k).alloc o) := (below_drewN (Below.refl w.heap.size w) k).alloc (by have := (below_drewN (Below.refl w.heap.size w) k).size; exact Nat.le_refl _) o
theorem row_drewN (w : World) (k T : Nat) (c : Array Value) : Row ((w.drewN k).alloc (.cells c T)) w.heap.size T c := by
  have := row_new (w.drewN k) T c
  simpa using this
attribute [local go_sem ↓] load36_eq store36_eq zero36 cellsS_of
attribute [local go_sem] store36_new load36_new
set_option maxRecDepth 100000 in
set_option maxHeartbeats 400000 in
theorem may_walk {W0 w : World} {b B : Nat} {T : List Nd} {tv : Value} {c : C} {mv sv : Value} {lk : Int} {st : List Int} (h : WK W0 w b T tv c mv sv lk) (hs : StkO w B sv st) (h0 : st ≠ []) : Calls Tryd.prog 23 #[.pointer (some ⟨b, 0, none⟩)] w fun e w' => e = .returned (.int .i64 (mayT (fsT T) c (topT st))) ∧ Below w.heap.size w w' := by
  have HW := Lib.hid h
  have HS := Lib.hid hs
  have HTOP := Lib.hid (fun wx (hb : Below w.heap.size w wx) => top_is (h.keep hb) (show StkO wx B sv st from owns_keep hs hb) h0)
  have HST := Lib.hid (fun wx (hb : Below w.heap.size w wx) => stat_row (topT st) ((h.tr.keep h.ba).keep hb))
  have c0 := h.c0
  have hlt := h.lt
  have hms := method_stat
  clear hs h
  obtain ⟨R, hR⟩ : ∃ R, R = mayT (fsT T) c (topT st) := ⟨_, rfl⟩
  rw [← hR]
  unfold mayT at hR
  generalize hq : (fsT T).stat (topT st) = q at *
  obtain ⟨s, e⟩ := q
  dsimp only at *
  have HRR := Lib.hid hR
  clear hR
  have HZ2 := Lib.hid (fun k => (row_new w 36 (cellsS zeroS)).keep (below_drewN (Below.refl _ _) k))
  have HZC := Lib.hid (fun k => below_drewN (Go.Joins.below_alloc1 w (.cells (cellsS zeroS) 36)) k)
  have HZ1 := Lib.hid (fun k => row_drewN w k 36 (cellsS zeroS))
  have HZB := Lib.hid (fun k => below_drewN_alloc w k (.cells (cellsS zeroS) 36))
  have HD0 := Lib.hid (show Below w.heap.size w w.drew from (Below.refl _ _).drew)
  have HD1 := Lib.hid (show Below w.heap.size w (w.alloc (.cells (cellsS zeroS) 36)).drew from ((Below.refl _ _).alloc (Nat.le_refl _) _).drew)
  have HBO : Hid (∀ w', Below w.heap.size w w' → (Below w.heap.size w w' ∧ w'.cell? ⟨b, 0, none⟩ = some (.iface 24 tv))) := Lib.hid (fun w' hb => ⟨hb, (hb.cell (p := ⟨b, 0, none⟩) hlt).trans c0⟩)
  clear hq
  go_enter Tryd.func23, Tryd.ntmps23
  go_upto_region 1 with fail
  go_cut [3, 4] (fun s3 s4 wx => s4 = .int .i64 e ∧ ∃ b9, s3 = .pointer (some ⟨b9, 0, none⟩) ∧ w.heap.size ≤ b9 ∧ Below w.heap.size w wx ∧ Row wx b9 36 (cellsS s))
  case first =>
    go_region_held3 (fun w' => Below w.heap.size w w' ∧ w'.cell? ⟨b, 0, none⟩ = some (.iface 24 tv)) (first | assumption | exact HBO.out _ HD0.out | exact HBO.out _ (below_drewN (Below.refl _ _) _) | exact HBO.out _ (below_drewN (Go.Joins.below_alloc1 _ _) _) | exact HBO.out _ (below_drewN (And.left ‹_›) _) | exact HBO.out _ HD1.out | exact HBO.out _ (below_setRow (And.left ‹_›) (Nat.le_refl _) _) | exact HBO.out _ (Below.alloc (And.left ‹_›) (Below.size (And.left ‹_›)) _) | go_keep)
      (first | (go_at_call 24; refine (HTOP.out _ (‹Below w.heap.size w _ ∧ _›).1).mono ?_; rintro e9 w9 ⟨rfl, k9, rfl⟩; have hS := HBO.out _ (below_drewN (‹Below w.heap.size w _ ∧ _›).1 k9)) | (go_at_call 10; (with_reducible refine (HST.out ((w.alloc (.cells (cellsS zeroS) 36)).drewN _) (HZC.out _)).mono ?_); rintro e9 w9 ⟨rfl, hb9⟩; have hst := ((HZ2.out _).keep hb9).store36 s; have hS := HBO.out _ ((HZC.out _).trans (hb9.mono (HZC.out _).size))) | (go_at_call 10; (with_reducible refine (HST.out ((w.drewN _).alloc (.cells (cellsS zeroS) 36)) (HZB.out _)).mono ?_); rintro e9 w9 ⟨rfl, hb9⟩; have hst := ((HZ1.out _).keep hb9).store36 s; have hS := HBO.out _ ((HZB.out _).trans (hb9.mono (HZB.out _).size))) | (go_at_call 10; refine (HST.out _ (‹Below w.heap.size w _ ∧ _›).1).mono ?_; rintro e9 w9 ⟨rfl, hb9⟩; have hS := HBO.out _ ((‹Below w.heap.size w _ ∧ _›).1.trans (hb9.mono (‹Below w.heap.size w _ ∧ _›).1.size))))
    all_goals go_wp2
    all_goals go_meet
    all_goals first
      | exact ⟨rfl, _, rfl, hS.1.size, hS.1.alloc hS.1.size _, row_new _ _ _⟩
      | exact ⟨rfl, _, rfl, Nat.le_refl _, below_setRow hS.1 (Nat.le_refl _) _, ((HZ1.out _).keep hb9).setRow _⟩
      | exact ⟨rfl, _, rfl, Nat.le_refl _, below_setRow hS.1 (Nat.le_refl _) _, ((HZ2.out _).keep hb9).setRow _⟩
  case rest =>
    obtain ⟨rfl, b3, rfl, hbl, hbc, hr3⟩ := hcut
    have HBC := Lib.hid hbc
    have HR3 := Lib.hid hr3
    have k0 : wc.cell? ⟨b3, 0, none⟩ = some (.int .i64 s.kind) := hr3.cell 0
    have hwk := HW.out.keep hbc
    obtain ⟨-, -, -, d2, d3, d4, d5, d6, d7, -, -, -, hba, -, -, hmo⟩ := hwk
    have HMO := Lib.hid (hmo.keep hba)
    clear hbl hbc hr3 hmo hba HTOP HST HZ1 HZ2 HZB HZC HD0 HD1 HBO c0
    by_cases he : e = 0
    · subst he
      by_cases hk : s.kind = 2
      · have hk' : (s.kind != 2) = false := by simp [hk]
        have HR := Lib.hid (show R = if (mayR s c 4).2 ≠ 0 ∨ (mayR s c 4).1 = false then 7 else 0 by rw [HRR.out, if_neg (by decide), if_neg (by rw [hk]; decide)])
        clear hk
        have hmay := fun (wx : World) (hb : Below wc.heap.size wc wx) => (show Calls Tryd.prog 37 #[.agg (cellsS s), .agg #[.int .i64 c.user, .int .i64 c.group, mv, .int .i64 c.caps, .int .i64 c.level, .int .i64 c.kind], .int .i64 4] wx _ from may_is (w := wx) (v := .agg #[.int .i64 c.user, .int .i64 c.group, mv, .int .i64 c.caps, .int .i64 c.level, .int .i64 c.kind]) (c := c) s 4 ⟨mv, rfl, HMO.out.keep hb⟩)
        rcases hm : mayR s c 4 with ⟨ok, oe⟩
        rw [hm] at HR hmay
        dsimp only at HR hmay
        have HMAY := Lib.hid hmay
        have hblt := Nat.lt_of_lt_of_le hlt HBC.out.size
        have HBO : Hid (∀ wx, Below wc.heap.size wc wx → (fun wx => Below wc.heap.size wc wx ∧ (load36 (.pointer (some ⟨b3, 0, none⟩))).run Tryd.prog wx = .ok (.agg (cellsS s)) wx ∧ wx.cell? ⟨b, 2, none⟩ = some (.int .i64 c.user) ∧ wx.cell? ⟨b, 3, none⟩ = some (.int .i64 c.group) ∧ wx.cell? ⟨b, 4, none⟩ = some mv ∧ wx.cell? ⟨b, 5, none⟩ = some (.int .i64 c.caps) ∧ wx.cell? ⟨b, 6, none⟩ = some (.int .i64 c.level) ∧ wx.cell? ⟨b, 7, none⟩ = some (.int .i64 c.kind)) wx) := Lib.hid (fun wx hb => ⟨hb, (HR3.out.keep hb).load36, (hb.cell (p := ⟨b, 2, none⟩) hblt).trans d2, (hb.cell (p := ⟨b, 3, none⟩) hblt).trans d3, (hb.cell (p := ⟨b, 4, none⟩) hblt).trans d4, (hb.cell (p := ⟨b, 5, none⟩) hblt).trans d5, (hb.cell (p := ⟨b, 6, none⟩) hblt).trans d6, (hb.cell (p := ⟨b, 7, none⟩) hblt).trans d7⟩)
        clear hmay hm
        go_upto_region 6 with fail
        go_region_held3 (fun wx => Below wc.heap.size wc wx ∧ (load36 (.pointer (some ⟨b3, 0, none⟩))).run Tryd.prog wx = .ok (.agg (cellsS s)) wx ∧ wx.cell? ⟨b, 2, none⟩ = some (.int .i64 c.user) ∧ wx.cell? ⟨b, 3, none⟩ = some (.int .i64 c.group) ∧ wx.cell? ⟨b, 4, none⟩ = some mv ∧ wx.cell? ⟨b, 5, none⟩ = some (.int .i64 c.caps) ∧ wx.cell? ⟨b, 6, none⟩ = some (.int .i64 c.level) ∧ wx.cell? ⟨b, 7, none⟩ = some (.int .i64 c.kind)) (first | assumption | exact HBO.out _ (Below.refl _ _) | exact HBO.out _ (Below.refl _ _).drew | go_keep)
          (first | (go_at_call 37; refine (HMAY.out _ (‹Below wc.heap.size wc _ ∧ _›).1).mono ?_; rintro e9 w9 ⟨rfl, hb9⟩; have hS := HBO.out _ ((‹Below wc.heap.size wc _ ∧ _›).1.trans (hb9.mono (‹Below wc.heap.size wc _ ∧ _›).1.size))))
        have HBF := Lib.hid (HBC.out.trans (hS.1.mono HBC.out.size))
        clear hb9 hS
        by_cases ho : oe = 0
        · subst ho
          cases ok
          · have HR2 := Lib.hid (HR.out.trans (if_pos (.inr rfl)))
            go_wp2_with fail
            go_ret
            exact ⟨ret_int HR2.out.symm, HBF.out⟩
          · have HR2 := Lib.hid (HR.out.trans (if_neg (by simp)))
            go_wp2_with fail
            go_ret
            exact ⟨ret_int HR2.out.symm, HBF.out⟩
        · have ho' : (oe != 0) = true := by simp [ho]
          have HR2 := Lib.hid (HR.out.trans (if_pos (.inl ho)))
          clear ho
          go_wp2_with fail
          go_ret
          exact ⟨ret_int HR2.out.symm, HBF.out⟩
      · have hk' : (s.kind != 2) = true := by simp [hk]
        have HR := Lib.hid (show R = 12 by rw [HRR.out, if_neg (by decide), if_pos hk])
        clear hk
        go_wp2_with fail
        go_ret
        exact ⟨ret_int HR.out.symm, HBC.out⟩
    · have he' : (e != 0) = true := by simp [he]
      have HR := Lib.hid (show R = e by rw [HRR.out, if_pos he])
      clear he
      go_wp2_with fail
      go_ret
      exact ⟨ret_int HR.out.symm, HBC.out⟩
end Go.Proofs.YtjkephmfpoekgaaDoor.PathLaw
