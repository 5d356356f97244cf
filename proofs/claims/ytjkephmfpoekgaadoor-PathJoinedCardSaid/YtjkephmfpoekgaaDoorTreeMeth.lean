/- The walks of the plain tree's methods: Stat, Tells, named, Look. -/
import Derived.Test.YtjkephmfpoekgaaDoorTreeWalk
import Derived.Lib.ConvBytes
import Derived.Deep.Cut
import Derived.Deep.CutRange
import Derived.Deep.RegionHeld3
import Derived.WalkSpells
namespace Go.Proofs.YtjkephmfpoekgaaDoor.PathLaw
open Go.RowKit Go.Proofs.YtjkephmfpoekgaaDoor.CredLaw
set_option linter.unusedVariables false
set_option linter.unusedSimpArgs false
def statT (T : List Nd) (n : Int) : S × Int := match nodeT T n with
  | none => (zeroS, 4)
  | some d => (d.st, 0)
def tellsT (T : List Nd) (n : Int) : ByteArray × Int := match nodeT T n with
  | none => (⟨#[]⟩, 4)
  | some d => if d.st.kind = 3 then (d.tell, 0) else (⟨#[]⟩, 8)
theorem set6b {w w9 : World} {b : Nat} (h : Below w.heap.size w w9) (hb : w.heap.size ≤ b) (x0 x1 x2 x3 x4 x5 : Value) : Below w.heap.size w ((((((w9.setCell ⟨b, 0, none⟩ x0).setCell ⟨b, 1, none⟩ x1).setCell ⟨b, 2, none⟩ x2).setCell ⟨b, 3, none⟩ x3).setCell ⟨b, 4, none⟩ x4).setCell ⟨b, 5, none⟩ x5) :=
  (((((h.setCell hb _).setCell hb _).setCell hb _).setCell hb _).setCell hb _).setCell hb _
set_option maxRecDepth 100000 in
theorem stat_is {w : World} {v : Value} {T : List Nd} (n : Int) (h : TreeS w v T) : Calls Tryd.prog 10 #[v, .int .i64 n] w fun E w' => E = .returned (.tuple #[encS (statT T n).1, .int .i64 (statT T n).2]) ∧ Below w.heap.size w w' := by
  obtain ⟨a, cap, rfl, -⟩ := id h
  have hb1 := Go.Joins.below_alloc1 w (.cells #[.slice a T.length cap] 24)
  have hb2 := hb1.alloc hb1.size (.cells #[.int .i64 0, .int .i64 0, .int .i64 0, .int .i64 0, .int .i64 0, .int .i64 0] 36)
  have hh := heap_alloc_new (w.alloc (.cells #[.slice a T.length cap] 24)) (.cells #[.int .i64 0, .int .i64 0, .int .i64 0, .int .i64 0, .int .i64 0, .int .i64 0] 36)
  have hsz : w.heap.size + 1 < ((w.alloc (.cells #[.slice a T.length cap] 24)).alloc (.cells #[.int .i64 0, .int .i64 0, .int .i64 0, .int .i64 0, .int .i64 0, .int .i64 0] 36)).heap.size := by simp
  have HND := Lib.hid (node_is n (h.keep hb2))
  have HB2 := Lib.hid hb2
  have HH := Lib.hid hh
  have HSZ := Lib.hid hsz
  clear hb1 hb2 hh hsz h
  go_enter Tryd.func10, Tryd.ntmps10
  go_upto_region 2 with (go_at_call 17; refine HND.out.mono ?_; rintro e9 w9 ⟨p, rfl, hb9, hp⟩)
  have hB9 := HB2.out.trans (hb9.mono HB2.out.size)
  have hh9 := (hb9.block (w.heap.size + 1) HSZ.out).trans (by have := HH.out; simp only [World.size_alloc] at this; exact this)
  have r : ∀ j u, [Value.int .i64 0, .int .i64 0, .int .i64 0, .int .i64 0, .int .i64 0, .int .i64 0][j]? = some u → w9.cell? ⟨w.heap.size + 1, j, none⟩ = some u := fun j u hj => by rw [cell_of_row _ _ _ _ _ _ hh9]; simpa using hj
  have r0 := r 0 _ rfl
  have r1 := r 1 _ rfl
  have r2 := r 2 _ rfl
  have r3 := r 3 _ rfl
  have r4 := r 4 _ rfl
  have r5 := r 5 _ rfl
  have f0 : ∀ j, w9.frozen? ⟨w.heap.size + 1, j, none⟩ = false := fun j => by simp only [World.frozen?, hh9]; simp
  have HB9 := Lib.hid hB9
  clear hh9 r hB9 HH
  rcases hp with ⟨rfl, hno⟩ | ⟨b, o, d, rfl, hso, hd⟩
  · have HS := Lib.hid (show statT T n = (zeroS, 4) by unfold statT; rw [hno])
    clear hno hb9
    go_wp2_with fail
    exact bodyPost_ret (v := .tuple #[.agg #[.int .i64 0, .int .i64 0, .int .i64 0, .int .i64 0, .int .i64 0, .int .i64 0], .int .i64 4]) (by simp [results, Tryd.results10, go_sem, r0, r1, r2, r3, r4, r5]) rfl ⟨by rw [HS.out]; rfl, set6b HB9.out (Nat.le_succ _) _ _ _ _ _ _⟩
  · have HS := Lib.hid (show statT T n = (d.st, 0) by unfold statT; rw [hso])
    obtain ⟨-, c0, c1, c2, c3, c4, c5, -, -⟩ := hd.keep hb9
    clear hso hb9 hd
    go_wp2_with fail
    exact bodyPost_ret (v := .tuple #[.agg #[.int .i64 d.st.kind, .int .i64 d.st.mode, .int .i64 d.st.user, .int .i64 d.st.group, .int .i64 d.st.size, .int .i64 d.st.links], .int .i64 0]) (by simp [results, Tryd.results10, go_sem, r0, r1, r2, r3, r4, r5]) rfl ⟨by rw [HS.out]; rfl, set6b HB9.out (Nat.le_succ _) _ _ _ _ _ _⟩
set_option maxRecDepth 100000 in
theorem tells_is {w : World} {v : Value} {T : List Nd} (n : Int) (h : TreeS w v T) : Calls Tryd.prog 79 #[v, .int .i64 n] w fun E w' => E = .returned (.tuple #[.string (tellsT T n).1, .int .i64 (tellsT T n).2]) ∧ Below w.heap.size w w' := by
  obtain ⟨a, cap, rfl, -⟩ := id h
  have hb1 := Go.Joins.below_alloc1 w (.cells #[.slice a T.length cap] 24)
  have HND := Lib.hid (node_is n (h.keep hb1))
  have HB1 := Lib.hid hb1
  clear hb1 h
  go_enter Tryd.func79, Tryd.ntmps79
  go_upto_region 2 with (go_at_call 17; refine HND.out.mono ?_; rintro e9 w9 ⟨p, rfl, hb9, hp⟩)
  have HB9 := Lib.hid (HB1.out.trans (hb9.mono HB1.out.size))
  rcases hp with ⟨rfl, hno⟩ | ⟨b, o, d, rfl, hso, hd⟩
  · have HS := Lib.hid (show tellsT T n = (⟨#[]⟩, 4) by unfold tellsT; rw [hno])
    clear hno hb9
    go_wp2_with fail
    go_ret2
    exact ⟨by rw [HS.out]; rfl, HB9.out⟩
  · have HS := Lib.hid (show tellsT T n = if d.st.kind = 3 then (d.tell, 0) else (⟨#[]⟩, 8) by unfold tellsT; rw [hso])
    obtain ⟨-, c0, -, -, -, -, -, -, c7⟩ := hd.keep hb9
    clear hso hb9 hd
    by_cases h3 : d.st.kind = 3
    · have hb3 : (d.st.kind != 3) = false := by simp [h3]
      have H3 := Lib.hid (HS.out.trans (if_pos h3))
      clear h3
      go_wp2_with fail
      go_ret2
      exact ⟨by rw [H3.out]; rfl, HB9.out⟩
    · have hb3 : (d.st.kind != 3) = true := by simp [h3]
      have H3 := Lib.hid (HS.out.trans (if_neg h3))
      clear h3
      go_wp2_with fail
      go_ret2
      exact ⟨by rw [H3.out]; rfl, HB9.out⟩
end Go.Proofs.YtjkephmfpoekgaaDoor.PathLaw
