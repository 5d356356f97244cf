/- The walks of package open: New, free, Get, Seek, Close. The walks of package open: free and Open. The walk of disk.New. -/
import Derived.Test.YtnbhohaphmilmaaGreatDoorOpenWalk
import Derived.Test.YtnbhohaphmilmaaGreatDoorTpA
namespace Go.Proofs.YtnbhohaphmilmaaGreatDoor.OpenLaw
set_option linter.unusedSimpArgs false
open Go.RowKit
set_option linter.unusedVariables false

/-- all blocks but b are as they were -/
abbrev KB (b : Nat) (w w' : World) : Prop := w.grownBy w' (some b)
theorem KB.rfl' (b : Nat) (w : World) : KB b w w := World.grownBy.refl _ _
theorem KB.trans {b : Nat} {u w w' : World} (h : KB b u w) (k : KB b w w') : KB b u w' :=
  ⟨k.os.trans h.os, k.tape.trans h.tape, k.output.trans h.output, Nat.le_trans h.size k.size, fun i hi hn => (k.block i (Nat.lt_of_lt_of_le hi h.size) hn).trans (h.block i hi hn)⟩
theorem KB.of {b : Nat} {w w' : World} (h : Below w.heap.size w w') : KB b w w' := ⟨h.os, h.tape, h.output, h.size, fun i hi _ => h.block i hi⟩
theorem KB.alloc {b : Nat} {u w : World} (h : KB b u w) (o : Obj) : KB b u (w.alloc o) := h.trans (World.grownBy_alloc w o _)
theorem KB.drew {b : Nat} {u w : World} (h : KB b u w) : KB b u w.drew := ⟨h.os, h.tape, h.output, h.size, h.block⟩
theorem KB.set {b i : Nat} {u w : World} (h : KB b u w) (v : Value) : KB b u (w.setCell ⟨b, i, none⟩ v) :=
  h.trans ⟨rfl, rfl, rfl, by simp [World.setCell], fun k hk hn => Below.heap_setCell _ _ _ _ (by intro e; exact hn (by rw [e]))⟩
theorem KB.below {b B : Nat} {u w : World} (h : KB b u w) (hB : B ≤ b) (hs : B ≤ u.heap.size) : Below B u w :=
  ⟨h.os, h.tape, h.output, h.size, fun k hk => h.block k (by omega) (by intro e; have := Option.some.inj e; omega)⟩
theorem KB.cell {b : Nat} {u w : World} (h : KB b u w) {a : Addr} {v : Value} (hc : u.cell? a = some v) (hn : a.block ≠ b) : w.cell? a = some v := World.grownBy.cell h hc (by intro e; exact hn (Option.some.inj e))

theorem results_cell3 {fn : Func} {p u x : Tmp} {ty : TypeId} (h : fn.results = #[.cell p ty, .tmp u, .tmp x]) (tmps : Array Value) (P : Program) (w : World) :
    (results fn tmps).run P w = ((asAddr (tmps.getD p undef)).run P w).andThen fun a w1 => ((loadVar ty a).run P w1).andThen fun v w2 => .ok (.tuple #[v, tmps.getD u undef, tmps.getD x undef]) w2 := by
  unfold results
  rw [h]
  simp
theorem find_none {w : World} {b p j : Nat} {fs : Nat → F} {fd : Nat → Nat} (h : OTab w b fs fd) (h1 : 1 ≤ p) (h2 : p ≤ 16) (hj : j < 8) (hx : fd (p * 8 + j) = 0) : Calls Tryz.prog 232 #[.pointer (some ⟨b, 0, none⟩), .int .i64 p, .int .i64 j] w fun e w' => e = .returned (.tuple #[.pointer none, .int .i64 4]) ∧ Below w.heap.size w w' := by
  have := find_is h h1 h2 hj
  rw [hx] at this
  exact this
theorem find_some {w : World} {b p j k : Nat} {fs : Nat → F} {fd : Nat → Nat} (h : OTab w b fs fd) (h1 : 1 ≤ p) (h2 : p ≤ 16) (hj : j < 8) (hx : fd (p * 8 + j) = k + 1) : Calls Tryz.prog 232 #[.pointer (some ⟨b, 0, none⟩), .int .i64 p, .int .i64 j] w fun e w' => e = .returned (.tuple #[.pointer (some ⟨b, k * 6, none⟩), .int .i64 0]) ∧ Below w.heap.size w w' := by
  have := find_is h h1 h2 hj
  rw [hx] at this
  exact this
def zAt (i : Nat) : Value := if i < 192 then (if i % 6 = 3 then .bool false else .int .i64 0) else .int .i64 0
set_option maxRecDepth 100000 in
theorem zeros_eq : Tryz.zeroCells201.toList = (List.range 328).map zAt := by kernel_rfl
theorem zeros_cell (w : World) (i : Nat) (h : i < 328) : (w.alloc (.cells Tryz.zeroCells201 201)).cell? ⟨w.heap.size, i, none⟩ = some (zAt i) := by
  have := cells_new w Tryz.zeroCells201.toList 201 i (zAt i) (by rw [zeros_eq, List.getElem?_map, List.getElem?_range h]; rfl)
  rw [Array.toArray_toList] at this
  rw [← this]
  congr 1
  unfold Addr.add
  split <;> simp_all
theorem frozen_new (w : World) (c : Array Value) (T : TypeId) (i : Nat) : (w.alloc (.cells c T)).frozen? ⟨w.heap.size, i, none⟩ = false := by
  simp
theorem new_tab (w : World) : OTab (w.alloc (.cells Tryz.zeroCells201 201)) w.heap.size (fun _ => f0) (fun _ => 0) := by
  refine ⟨by simp, fun i => frozen_new w _ _ i, fun i => by omega, ?_, ?_, ?_, ?_, ?_, ?_, ?_⟩
  · intro k hk; rw [zeros_cell w _ (by omega), zAt, if_pos (by omega), if_neg (by omega)]
  · intro k hk; rw [zeros_cell w _ (by omega), zAt, if_pos (by omega), if_neg (by omega)]
  · intro k hk; rw [zeros_cell w _ (by omega), zAt, if_pos (by omega), if_neg (by omega)]
  · intro k hk; rw [zeros_cell w _ (by omega), zAt, if_pos (by omega), if_pos (by omega)]
  · intro k hk; rw [zeros_cell w _ (by omega), zAt, if_pos (by omega), if_neg (by omega)]
  · intro k hk; rw [zeros_cell w _ (by omega), zAt, if_pos (by omega), if_neg (by omega)]
  · intro p j hp hj; rw [zeros_cell w _ (by omega), zAt, if_neg (by omega)]; rfl
theorem new_is (w : World) : Calls Tryz.prog 28 #[] w fun e w' => e = .returned (.pointer (some ⟨w.heap.size, 0, none⟩)) ∧ Below w.heap.size w w' ∧ w'.heap.size = w.heap.size + 1 ∧ OTab w' w.heap.size (fun _ => f0) (fun _ => 0) := by
  go_enter Tryz.func28, Tryz.ntmps28
  go_wp2
  go_ret
  exact ⟨rfl, Go.Joins.below_alloc1 w _, by simp, new_tab w⟩
set_option maxRecDepth 100000 in
set_option maxHeartbeats 400000 in
theorem get_is {w : World} {b p j k : Nat} {fs : Nat → F} {fd : Nat → Nat} (h : OTab w b fs fd) (h1 : 1 ≤ p) (h2 : p ≤ 16) (hj : j < 8) (hx : fd (p * 8 + j) = k + 1) : Calls Tryz.prog 160 #[.pointer (some ⟨b, 0, none⟩), .int .i64 p, .int .i64 j] w fun e w' => e = .returned (.tuple #[thing (fs k), .int .i64 0]) ∧ Below w.heap.size w w' := by
  have hk : k < 32 := by have := h.le (p * 8 + j); omega
  have hF := find_some (h.alloc (.cells #[.int .i64 0, .int .i64 0, .int .i64 0, .bool false, .int .i64 0] 194)) h1 h2 hj hx
  have HF := Lib.hid hF
  have HH := Lib.hid (h.alloc (.cells #[.int .i64 0, .int .i64 0, .int .i64 0, .bool false, .int .i64 0] 194))
  have HB := Lib.hid (Go.Joins.below_alloc1 w (.cells #[.int .i64 0, .int .i64 0, .int .i64 0, .bool false, .int .i64 0] 194))
  have HR := Lib.hid (has_new w [.int .i64 0, .int .i64 0, .int .i64 0, .bool false, .int .i64 0] 194)
  have HZ := Lib.hid (fun i => frozen_new w #[.int .i64 0, .int .i64 0, .int .i64 0, .bool false, .int .i64 0] 194 i)
  clear hF hx h h1 h2 hj
  go_enter Tryz.func160, Tryz.ntmps160
  go_wp2_with fail
  refine HF.out.mono ?_
  rintro e w1 ⟨rfl, hb1⟩
  have H1 := Lib.hid (HH.out.keep hb1)
  have c0 := H1.out.c0 k hk
  have c1 := H1.out.c1 k hk
  have c2 := H1.out.c2 k hk
  have c3 := H1.out.c3 k hk
  have c4 := H1.out.c4 k hk
  have R := HR.out.keep hb1
  have r0 := R.2 0 _ rfl
  have r1 := R.2 1 _ rfl
  have r2 := R.2 2 _ rfl
  have r3 := R.2 3 _ rfl
  have r4 := R.2 4 _ rfl
  have z : ∀ i, w1.frozen? ⟨w.heap.size, i, none⟩ = false := fun i => (hb1.frozen (p := ⟨w.heap.size, i, none⟩) (by simp)).trans (HZ.out i)
  have HK := Lib.hid (Below.trans HB.out (hb1.mono (by simp)))
  clear R hb1 hk
  go_wp2
  refine bodyPost_ret (v := .tuple #[thing (fs k), .int .i64 0]) (by rw [results_cell_tmp rfl]; go_simp; rfl) rfl ⟨rfl, ?_⟩
  exact ((((HK.out.setCell (p := ⟨_, _, none⟩) (Nat.le_refl _) _).setCell (p := ⟨_, _, none⟩) (Nat.le_refl _) _).setCell (p := ⟨_, _, none⟩) (Nat.le_refl _) _).setCell (p := ⟨_, _, none⟩) (Nat.le_refl _) _).setCell (p := ⟨_, _, none⟩) (Nat.le_refl _) _
theorem has_other {w : World} {g b i : Nat} {cs : List Value} (h : Has w g cs) (hg : g ≠ b) (v : Value) : Has (w.setCell ⟨b, i, none⟩ v) g cs :=
  ⟨by simpa using h.1, fun j u hu => (World.cell?_setCell_other _ _ _ _ (by intro e; exact hg (by simpa using (congrArg Addr.block e).symm))).trans (h.2 j u hu)⟩
theorem KB.setc {b : Nat} {u w : World} (h : KB b u w) (i : Nat) (v : Value) : KB b u (w.setCell ⟨b, i, none⟩ v) := h.set v
theorem OTab.other {w : World} {b g i : Nat} {fs : Nat → F} {fd : Nat → Nat} (h : OTab w b fs fd) (hg : g ≠ b) (v : Value) : OTab (w.setCell ⟨g, i, none⟩ v) b fs fd := by
  have e : ∀ x, (w.setCell ⟨g, i, none⟩ v).cell? ⟨b, x, none⟩ = w.cell? ⟨b, x, none⟩ := fun x => World.cell?_setCell_other _ _ _ _ (by intro e; exact hg (by simpa using congrArg Addr.block e))
  exact ⟨by simpa using h.lt, fun i => by rw [World.frozen?_setCell]; exact h.fz i, h.le, fun k hk => by rw [e]; exact h.c0 k hk, fun k hk => by rw [e]; exact h.c1 k hk, fun k hk => by rw [e]; exact h.c2 k hk, fun k hk => by rw [e]; exact h.c3 k hk, fun k hk => by rw [e]; exact h.c4 k hk, fun k hk => by rw [e]; exact h.c5 k hk, fun p j hp hj => by rw [e]; exact h.d p j hp hj⟩
theorem KB.other {b g i : Nat} {u w : World} (h : KB b u w) (hs : u.heap.size ≤ g) (v : Value) : KB b u (w.setCell ⟨g, i, none⟩ v) :=
  ⟨h.os, h.tape, h.output, by simpa [World.setCell] using h.size, fun k hk hn => (Below.heap_setCell _ _ _ _ (by show k ≠ g; omega)).trans (h.block k hk hn)⟩
set_option maxRecDepth 100000 in
set_option maxHeartbeats 400000 in
theorem seek_is {w : World} {b p j k : Nat} {at' : Int} {fs : Nat → F} {fd : Nat → Nat} (h : OTab w b fs fd) (h1 : 1 ≤ p) (h2 : p ≤ 16) (hj : j < 8) (hx : fd (p * 8 + j) = k + 1) (ha : 0 ≤ at') (hb : at' ≤ 512) : Calls Tryz.prog 163 #[.pointer (some ⟨b, 0, none⟩), .int .i64 p, .int .i64 j, .int .i64 at'] w fun e w' => e = .returned (.int .i64 0) ∧ KB b w w' ∧ OTab w' b (updF fs k { fs k with pos := at' }) fd := by
  have hk : k < 32 := by have := h.le (p * 8 + j); omega
  have HF := Lib.hid (find_some h h1 h2 hj hx)
  have HH := Lib.hid h
  have HB := Lib.hid (KB.rfl' b w)
  clear hx h h1 h2 hj
  go_enter Tryz.func163, Tryz.ntmps163
  go_wp2_with fail
  refine HF.out.mono ?_
  rintro e w1 ⟨rfl, hb1⟩
  have H1 := Lib.hid (HH.out.keep hb1)
  have c4 := H1.out.c4 k hk
  have z : ∀ i, w1.frozen? ⟨b, i, none⟩ = false := H1.out.fz
  have HK := Lib.hid (KB.of hb1 (b := b))
  have HN := Lib.hid (H1.out.setPos hk at')
  clear hb1 hk
  go_wp2
  go_ret
  exact ⟨rfl, HK.out.setc _ _, HN.out⟩
set_option maxRecDepth 100000 in
set_option maxHeartbeats 400000 in
theorem close_is {w : World} {b p j k : Nat} {fs : Nat → F} {fd : Nat → Nat} (h : OTab w b fs fd) (h1 : 1 ≤ p) (h2 : p ≤ 16) (hj : j < 8) (hx : fd (p * 8 + j) = k + 1) (hn0 : 0 < (fs k).n) (hn1 : (fs k).n ≤ 200) : Calls Tryz.prog 158 #[.pointer (some ⟨b, 0, none⟩), .int .i64 p, .int .i64 j] w fun e w' => e = .returned (.tuple #[thing (fs k), .bool (decide ((fs k).n = 1)), .int .i64 0]) ∧ KB b w w' ∧ OTab w' b (updF fs k { fs k with n := (fs k).n - 1 }) (updN fd (p * 8 + j) 0) := by
  have hk : k < 32 := by have := h.le (p * 8 + j); omega
  have hF := find_some (h.alloc (.cells #[.int .i64 0, .int .i64 0, .int .i64 0, .bool false, .int .i64 0] 194)) h1 h2 hj hx
  have HF := Lib.hid hF
  have HH := Lib.hid (h.alloc (.cells #[.int .i64 0, .int .i64 0, .int .i64 0, .bool false, .int .i64 0] 194))
  have HB := Lib.hid (Go.Joins.below_alloc1 w (.cells #[.int .i64 0, .int .i64 0, .int .i64 0, .bool false, .int .i64 0] 194))
  have HR := Lib.hid (has_new w [.int .i64 0, .int .i64 0, .int .i64 0, .bool false, .int .i64 0] 194)
  have HZ := Lib.hid (fun i => frozen_new w #[.int .i64 0, .int .i64 0, .int .i64 0, .bool false, .int .i64 0] 194 i)
  have hne : w.heap.size ≠ b := by have := h.lt; omega
  have hps : (p : Int) < 17 := by omega
  have hjs : (j : Int) < 8 := by omega
  have HP := Lib.hid (show p < 17 by omega)
  have HJ := Lib.hid hj
  clear hF hx h h1 h2 hj
  go_enter Tryz.func158, Tryz.ntmps158
  go_wp2_with fail
  refine HF.out.mono ?_
  rintro e w1 ⟨rfl, hb1⟩
  have H1 := Lib.hid (HH.out.keep hb1)
  have c0 := H1.out.c0 k hk
  have c1 := H1.out.c1 k hk
  have c2 := H1.out.c2 k hk
  have c3 := H1.out.c3 k hk
  have c4 := H1.out.c4 k hk
  have c5 := H1.out.c5 k hk
  have d := H1.out.d p j HP.out HJ.out
  have R := HR.out.keep hb1
  have r0 := R.2 0 _ rfl
  have r1 := R.2 1 _ rfl
  have r2 := R.2 2 _ rfl
  have r3 := R.2 3 _ rfl
  have r4 := R.2 4 _ rfl
  have z : ∀ i, w1.frozen? ⟨w.heap.size, i, none⟩ = false := fun i => (hb1.frozen (p := ⟨w.heap.size, i, none⟩) (by simp)).trans (HZ.out i)
  have zb : ∀ i, w1.frozen? ⟨b, i, none⟩ = false := H1.out.fz
  have HK := Lib.hid (KB.of (b := b) (Below.trans HB.out (hb1.mono (by simp))))
  have HN : Hid (OTab ((w1.setCell ⟨b, 192 + p * 8 + j, none⟩ (.int .i64 0)).setCell ⟨b, k * 6 + 5, none⟩ (.int .i64 ((fs k).n - 1))) b (updF fs k { fs k with n := (fs k).n - 1 }) (updN fd (p * 8 + j) 0)) := Lib.hid ((H1.out.setD HP.out HJ.out (x := 0) (by omega)).setN hk ((fs k).n - 1))
  have HS := Lib.hid (has_other (i := k * 6 + 5) (has_other (i := 192 + p * 8 + j) R hne (.int .i64 0)) hne (.int .i64 ((fs k).n - 1)))
  have HKN := Lib.hid ((HK.out.setc (192 + p * 8 + j) (.int .i64 0)).setc (k * 6 + 5) (.int .i64 ((fs k).n - 1)))
  have HZN : Hid (∀ i, ((w1.setCell ⟨b, 192 + p * 8 + j, none⟩ (.int .i64 0)).setCell ⟨b, k * 6 + 5, none⟩ (.int .i64 ((fs k).n - 1))).frozen? ⟨w.heap.size, i, none⟩ = false) := Lib.hid (fun i => by rw [World.frozen?_setCell, World.frozen?_setCell]; exact z i)
  have HQ := Lib.hid hk
  have n1 : k * 6 + 5 ≠ 192 + p * 8 + j := by omega
  have n2 : k * 6 + 4 ≠ 192 + p * 8 + j := by omega
  have n3 : k * 6 + 3 ≠ 192 + p * 8 + j := by omega
  have n4 : k * 6 + 2 ≠ 192 + p * 8 + j := by omega
  have n5 : k * 6 + 1 ≠ 192 + p * 8 + j := by omega
  have n6 : k * 6 ≠ 192 + p * 8 + j := by omega
  clear R hb1 hk
  go_wp2_with fail
  clear c0 c1 c2 c3 c4 c5 d r0 r1 r2 r3 r4 z zb HF HH HB HR HZ H1 HK
  generalize ((w1.setCell ⟨b, 192 + p * 8 + j, none⟩ (.int .i64 0)).setCell ⟨b, k * 6 + 5, none⟩ (.int .i64 ((fs k).n - 1))) = w2 at *
  have c0 := HN.out.c0 k HQ.out
  have c1 := HN.out.c1 k HQ.out
  have c2 := HN.out.c2 k HQ.out
  have c3 := HN.out.c3 k HQ.out
  have c4 := HN.out.c4 k HQ.out
  have c5 := HN.out.c5 k HQ.out
  rw [updF_same] at c0 c1 c2 c3 c4 c5
  have r0 := HS.out.2 0 _ rfl
  have r1 := HS.out.2 1 _ rfl
  have r2 := HS.out.2 2 _ rfl
  have r3 := HS.out.2 3 _ rfl
  have r4 := HS.out.2 4 _ rfl
  have z := HZN.out
  have hone : ((fs k).n - 1 == 0) = decide ((fs k).n = 1) := by
    by_cases q : (fs k).n = 1
    · rw [q]; rfl
    · rw [decide_eq_false q]; simp; omega
  obtain ⟨one, hO⟩ : ∃ one, decide ((fs k).n = 1) = one := ⟨_, rfl⟩
  rw [hO] at hone
  have HO := Lib.hid hO
  clear hO n1 n2 n3 n4 n5 n6
  go_region
  go_wp2
  refine bodyPost_ret (v := .tuple #[thing (fs k), .bool one, .int .i64 0]) (by rw [results_cell3 rfl]; go_simp; rfl) rfl ⟨by rw [HO.out], ?_, ?_⟩
  · exact ((((((HKN.out.other (Nat.le_refl _) _).other (Nat.le_refl _) _).other (Nat.le_refl _) _).other (Nat.le_refl _) _).other (Nat.le_refl _) _)).drew
  · exact ((((((HN.out.other hne _).other hne _).other hne _).other hne _).other hne _)).drew
end Go.Proofs.YtnbhohaphmilmaaGreatDoor.OpenLaw
namespace Go.Proofs.YtnbhohaphmilmaaGreatDoor.OpenLaw
set_option linter.unusedSimpArgs false
open Go.RowKit
set_option linter.unusedVariables false

abbrev row8 (r : Nat → Nat) : Value := .agg #[.int .i64 (r 0), .int .i64 (r 1), .int .i64 (r 2), .int .i64 (r 3), .int .i64 (r 4), .int .i64 (r 5), .int .i64 (r 6), .int .i64 (r 7)]
theorem row_at0 (r : Nat → Nat) (w : World) : (Instr.index 198 (row8 r) (.int .i64 0)).run Tryz.prog w = .ok (.int .i64 (r 0)) w := by kernel_rfl
theorem row_at1 (r : Nat → Nat) (w : World) : (Instr.index 198 (row8 r) (.int .i64 1)).run Tryz.prog w = .ok (.int .i64 (r 1)) w := by kernel_rfl
theorem row_at2 (r : Nat → Nat) (w : World) : (Instr.index 198 (row8 r) (.int .i64 2)).run Tryz.prog w = .ok (.int .i64 (r 2)) w := by kernel_rfl
theorem row_at3 (r : Nat → Nat) (w : World) : (Instr.index 198 (row8 r) (.int .i64 3)).run Tryz.prog w = .ok (.int .i64 (r 3)) w := by kernel_rfl
theorem row_at4 (r : Nat → Nat) (w : World) : (Instr.index 198 (row8 r) (.int .i64 4)).run Tryz.prog w = .ok (.int .i64 (r 4)) w := by kernel_rfl
theorem row_at5 (r : Nat → Nat) (w : World) : (Instr.index 198 (row8 r) (.int .i64 5)).run Tryz.prog w = .ok (.int .i64 (r 5)) w := by kernel_rfl
theorem row_at6 (r : Nat → Nat) (w : World) : (Instr.index 198 (row8 r) (.int .i64 6)).run Tryz.prog w = .ok (.int .i64 (r 6)) w := by kernel_rfl
theorem row_at7 (r : Nat → Nat) (w : World) : (Instr.index 198 (row8 r) (.int .i64 7)).run Tryz.prog w = .ok (.int .i64 (r 7)) w := by kernel_rfl
theorem row_at (r : Nat → Nat) (k : Nat) (hk : k < 8) (w : World) : (Instr.index 198 (row8 r) (.int .i64 k)).run Tryz.prog w = .ok (.int .i64 (r k)) w := by
  match k, hk with
  | 0, _ => exact row_at0 r w
  | 1, _ => exact row_at1 r w
  | 2, _ => exact row_at2 r w
  | 3, _ => exact row_at3 r w
  | 4, _ => exact row_at4 r w
  | 5, _ => exact row_at5 r w
  | 6, _ => exact row_at6 r w
  | 7, _ => exact row_at7 r w
  | k + 8, h => omega
def FreePost (r : Nat → Nat) (w : World) (e : Ending) (w' : World) : Prop :=
  w = w' ∧ ((∃ j, j < 8 ∧ r j = 0 ∧ (∀ i, i < j → r i ≠ 0) ∧ e = .returned (.int .i64 j)) ∨ ((∀ i, i < 8 → r i ≠ 0) ∧ e = .returned (.int .i64 (-1))))
set_option maxRecDepth 100000 in
set_option maxHeartbeats 400000 in
theorem free_is {w : World} {b p : Nat} {fs : Nat → F} {fd : Nat → Nat} (h : OTab w b fs fd) (hp : p < 17) (r : Nat → Nat) (hr : ∀ i, r i = fd (p * 8 + i)) : Calls Tryz.prog 301 #[.pointer (some ⟨b, 0, none⟩), .int .i64 p] w (FreePost r w) := by
  have d0 : w.cell? ⟨b, 192 + p * 8, none⟩ = some (.int .i64 (r 0)) := by rw [hr]; exact h.d p 0 hp (by omega)
  have d1 : w.cell? ⟨b, 192 + p * 8 + 1, none⟩ = some (.int .i64 (r 1)) := by rw [hr]; exact h.d p 1 hp (by omega)
  have d2 : w.cell? ⟨b, 192 + p * 8 + 2, none⟩ = some (.int .i64 (r 2)) := by rw [hr]; exact h.d p 2 hp (by omega)
  have d3 : w.cell? ⟨b, 192 + p * 8 + 3, none⟩ = some (.int .i64 (r 3)) := by rw [hr]; exact h.d p 3 hp (by omega)
  have d4 : w.cell? ⟨b, 192 + p * 8 + 4, none⟩ = some (.int .i64 (r 4)) := by rw [hr]; exact h.d p 4 hp (by omega)
  have d5 : w.cell? ⟨b, 192 + p * 8 + 5, none⟩ = some (.int .i64 (r 5)) := by rw [hr]; exact h.d p 5 hp (by omega)
  have d6 : w.cell? ⟨b, 192 + p * 8 + 6, none⟩ = some (.int .i64 (r 6)) := by rw [hr]; exact h.d p 6 hp (by omega)
  have d7 : w.cell? ⟨b, 192 + p * 8 + 7, none⟩ = some (.int .i64 (r 7)) := by rw [hr]; exact h.d p 7 hp (by omega)
  have hpi : (p : Int) < 17 := by omega
  clear h hr hp
  go_enter Tryz.func301, Tryz.ntmps301
  go_wp2
  go_loop [5, 6, 13] (fun u v i => ∃ k : Nat, k ≤ 8 ∧ i = .int .i64 k ∧ Hid (∀ j, j < k → r j ≠ 0)) (fun _ _ i => 8 - (intOf i).toNat)
  case atStart => exact ⟨0, by omega, rfl, fun j hj => absurd hj (by omega)⟩
  case round =>
    obtain ⟨k, hk8, rfl, HK⟩ := hrel
    by_cases hlt : k < 8
    · have hki : (k : Int) < 8 := by omega
      have hix := row_at r k hlt w
      have HX := Lib.hid hlt
      by_cases hz : r k = 0
      · have hz' : ((r k : Int) == 0) = true := by simp [hz]
        have HZ := Lib.hid hz
        clear hz
        go_wp2
        go_ret
        exact ⟨rfl, .inl ⟨k, HX.out, HZ.out, HK.out, rfl⟩⟩
      · have hz' : ((r k : Int) == 0) = false := by simp; omega
        have HZ := Lib.hid hz
        clear hz
        go_wp2
        go_round
        case rel => exact ⟨k + 1, by omega, rfl, fun j hj => by
          rcases Nat.lt_succ_iff_lt_or_eq.mp hj with q | q
          · exact HK.out j q
          · rw [q]; exact HZ.out⟩
        case measure => simp [intOf]; omega
    · obtain rfl : k = 8 := by omega
      go_wp2
      go_ret
      exact ⟨rfl, .inr ⟨HK.out, rfl⟩⟩

theorem OTab.setAll {w : World} {b k : Nat} {fs : Nat → F} {fd : Nat → Nat} (h : OTab w b fs fd) (hk : k < 32) (e : F) :
    OTab ((((((w.setCell ⟨b, k * 6, none⟩ (.int .i64 e.kind)).setCell ⟨b, k * 6 + 1, none⟩ (.int .i64 e.id)).setCell ⟨b, k * 6 + 2, none⟩ (.int .i64 e.may)).setCell ⟨b, k * 6 + 3, none⟩ (.bool e.more)).setCell ⟨b, k * 6 + 4, none⟩ (.int .i64 e.pos)).setCell ⟨b, k * 6 + 5, none⟩ (.int .i64 e.n)) b (updF fs k e) fd := by
  have s0 := h.setF hk (f := 0) (by omega) (v := .int .i64 e.kind) (e := { fs k with kind := e.kind }) rfl rfl rfl rfl rfl rfl
  have s1 := s0.setF hk (f := 1) (by omega) (v := .int .i64 e.id) (e := { fs k with kind := e.kind, id := e.id }) (by rw [updF_same]; rfl) rfl (by rw [updF_same]; rfl) (by rw [updF_same]; rfl) (by rw [updF_same]; rfl) (by rw [updF_same]; rfl)
  rw [updF_twice] at s1
  have s2 := s1.setF hk (f := 2) (by omega) (v := .int .i64 e.may) (e := { fs k with kind := e.kind, id := e.id, may := e.may }) (by rw [updF_same]; rfl) (by rw [updF_same]; rfl) rfl (by rw [updF_same]; rfl) (by rw [updF_same]; rfl) (by rw [updF_same]; rfl)
  rw [updF_twice] at s2
  have s3 := s2.setF hk (f := 3) (by omega) (v := .bool e.more) (e := { fs k with kind := e.kind, id := e.id, may := e.may, more := e.more }) (by rw [updF_same]; rfl) (by rw [updF_same]; rfl) (by rw [updF_same]; rfl) rfl (by rw [updF_same]; rfl) (by rw [updF_same]; rfl)
  rw [updF_twice] at s3
  have s4 := s3.setF hk (f := 4) (by omega) (v := .int .i64 e.pos) (e := { fs k with kind := e.kind, id := e.id, may := e.may, more := e.more, pos := e.pos }) (by rw [updF_same]; rfl) (by rw [updF_same]; rfl) (by rw [updF_same]; rfl) (by rw [updF_same]; rfl) rfl (by rw [updF_same]; rfl)
  rw [updF_twice] at s4
  have s5 := s4.setF hk (f := 5) (by omega) (v := .int .i64 e.n) (e := e) (by rw [updF_same]; rfl) (by rw [updF_same]; rfl) (by rw [updF_same]; rfl) (by rw [updF_same]; rfl) (by rw [updF_same]; rfl) rfl
  rw [updF_twice] at s5
  exact s5
theorem OTab.setD1 {w : World} {b : Nat} {fs : Nat → F} {fd : Nat → Nat} (h : OTab w b fs fd) {p j : Nat} (hp : p < 17) (hj : j < 8) {k : Nat} (hk : k < 32) : OTab (w.setCell ⟨b, 192 + p * 8 + j, none⟩ (.int .i64 ((k : Int) + 1))) b fs (updN fd (p * 8 + j) (k + 1)) := h.setD hp hj (x := k + 1) hk
def OpenPost (b p : Nat) (fs : Nat → F) (fd : Nat → Nat) (t : F) (w : World) (e : Ending) (w' : World) : Prop :=
  KB b w w' ∧ ((∃ j k, j < 8 ∧ fd (p * 8 + j) = 0 ∧ (∀ i, i < j → fd (p * 8 + i) ≠ 0) ∧ k < 32 ∧ (fs k).n = 0 ∧ (∀ i, i < k → (fs i).n ≠ 0) ∧ e = .returned (.tuple #[.int .i64 j, .int .i64 0]) ∧ OTab w' b (updF fs k t) (updN fd (p * 8 + j) (k + 1)))
    ∨ ((∀ i, i < 8 → fd (p * 8 + i) ≠ 0) ∨ (∀ i, i < 32 → (fs i).n ≠ 0)) ∧ e = .returned (.tuple #[.int .i64 0, .int .i64 6]) ∧ OTab w' b fs fd)
set_option maxRecDepth 100000 in
set_option maxHeartbeats 400000 in
theorem open_is {w : World} {b p : Nat} {fs : Nat → F} {fd : Nat → Nat} {kd id may : Int} (hk1 : 1 ≤ kd) (hk3 : kd ≤ 3) (h : OTab w b fs fd) (h1 : 1 ≤ p) (h2 : p ≤ 16) (hid : 0 ≤ id) (hm : 0 ≤ may) (hm3 : may ≤ 3) :
    Calls Tryz.prog 230 #[.pointer (some ⟨b, 0, none⟩), .int .i64 p, .agg #[.int .i64 kd, .int .i64 id, .int .i64 may, .bool false, .int .i64 0]] w (OpenPost b p fs fd ⟨kd, id, may, false, 0, 1⟩ w) := by
  have HO := Lib.hid (owner_is h1 h2)
  have HH := Lib.hid (h.alloc (.cells #[.int .i64 kd, .int .i64 id, .int .i64 may, .bool false, .int .i64 0] 194))
  have hbs := Nat.ne_of_lt h.lt
  obtain ⟨r, hr⟩ : ∃ r : Nat → Nat, ∀ i, r i = fd (p * 8 + i) := ⟨fun i => fd (p * 8 + i), fun _ => rfl⟩
  have HFR := Lib.hid (free_is HH.out (show p < 17 by omega) r hr)
  have HR := Lib.hid hr
  have HP := Lib.hid (show p < 17 by omega)
  clear h h1 h2 hr
  go_enter Tryz.func230, Tryz.ntmps230
  go_wp2_with fail
  refine (HO.out _).mono ?_
  rintro e w1 ⟨rfl, rfl⟩
  go_wp2_with fail
  refine HFR.out.mono ?_
  rintro e w1 ⟨rfl, ⟨j, hj8, hj0, hjm, rfl⟩ | ⟨hn, rfl⟩⟩
  · have HJ := Lib.hid (And.intro hj8 (And.intro hj0 hjm))
    have hji : (j : Int) < 8 := by omega
    have hpi : (p : Int) < 17 := by have := HP.out; omega
    clear hj8 hj0 hjm
    go_wp2_with fail
    go_loop [9, 48] (fun u i => ∃ k : Nat, k ≤ 32 ∧ i = .int .i64 k ∧ Hid (∀ j, j < k → (fs j).n ≠ 0)) (fun _ i => 32 - (intOf i).toNat)
    case atStart => exact ⟨0, by omega, rfl, fun j hj => absurd hj (by omega)⟩
    case round =>
      obtain ⟨k, hk, rfl, HK⟩ := hrel
      by_cases hlt : k < 32
      · have hki : (k : Int) < 32 := by omega
        have HX := Lib.hid hlt
        have c5 := HH.out.c5 k hlt
        by_cases hz : (fs k).n = 0
        · have HZ := Lib.hid hz
          have hz' : ((fs k).n == 0) = true := by simp [hz]
          have c0 := HH.out.c0 k hlt
          have c1 := HH.out.c1 k hlt
          have c2 := HH.out.c2 k hlt
          have c3 := HH.out.c3 k hlt
          have c4 := HH.out.c4 k hlt
          have d := HH.out.d p j HP.out HJ.out.1
          have zb : ∀ i, (w.alloc (.cells #[.int .i64 kd, .int .i64 id, .int .i64 may, .bool false, .int .i64 0] 194)).frozen? ⟨b, i, none⟩ = false := HH.out.fz
          clear hz hlt
          go_wp2_with fail
          go_region
          go_wp2
          go_ret2
          refine ⟨?_, .inl ⟨j, k, HJ.out.1, by rw [← HR.out]; exact HJ.out.2.1, fun i hi => by rw [← HR.out]; exact HJ.out.2.2 i hi, HX.out, HZ.out, HK.out, rfl, ?_⟩⟩
          · exact (((((((KB.rfl' b w).alloc _).setc _ _).setc _ _).setc _ _).setc _ _).setc _ _).setc _ _ |>.setc _ _ |>.drew
          · exact ((HH.out.setAll HX.out ⟨kd, id, may, false, 0, 1⟩).setD1 HP.out HJ.out.1 HX.out).drew
        · have hz' : ((fs k).n == 0) = false := by simp [hz]
          have HZ := Lib.hid hz
          clear hz
          go_wp2
          go_round
          case rel => exact ⟨k + 1, by omega, rfl, fun j hj => by
            rcases Nat.lt_succ_iff_lt_or_eq.mp hj with q | q
            · exact HK.out j q
            · rw [q]; exact HZ.out⟩
          case measure => simp [intOf]; omega
      · obtain rfl : k = 32 := by omega
        go_wp2
        go_ret2
        exact ⟨KB.alloc (KB.rfl' _ _) _, .inr ⟨.inr HK.out, rfl, HH.out⟩⟩
  · go_wp2
    go_ret2
    exact ⟨KB.alloc (KB.rfl' _ _) _, .inr ⟨.inl (fun i hi => by rw [← HR.out i]; exact hn i hi), rfl, HH.out⟩⟩
end Go.Proofs.YtnbhohaphmilmaaGreatDoor.OpenLaw
namespace Go.Proofs.YtnbhohaphmilmaaGreatDoor
open Go.RowKit
set_option linter.unusedVariables false
set_option linter.unusedSimpArgs false
attribute [local go_sem ↓] mkB_eq
theorem size_alloc1 (w : World) (o : Obj) : (w.alloc o).heap.size = w.heap.size + 1 := by simp
theorem dk_new {w : World} {D sb nb S : Nat} {l : List Int} (hD : w.heap[D]? = some (.cells #[.slice (some ⟨sb, 0, none⟩) (S * 64) (S * 64), .slice (some ⟨nb, 0, none⟩) (S * 64) (S * 64), .slice none 0 0, .int .i64 (-1)] 141 (0, 0))) (hs : BK w sb l) (hn : BK w nb l) (hl : l.length = S * 64) (h1 : D ≠ sb) (h2 : D ≠ nb) (h3 : sb ≠ nb) (hS0 : 1 ≤ S) (hS : S ≤ 256) : Dk w D sb nb (.slice none 0 0) 0 S l l :=
  ⟨by rw [cell_of_row w D 0 _ _ (0, 0) hD]; rfl, by rw [cell_of_row w D 1 _ _ (0, 0) hD]; rfl, by rw [cell_of_row w D 2 _ _ (0, 0) hD]; rfl, by rw [cell_of_row w D 3 _ _ (0, 0) hD]; rfl, fun j => by simp [World.frozen?, hD], (Array.getElem?_eq_some_iff.1 hD).1, hs, hn, hl, hl, ⟨[], World.ownsRow_nil _ _ _ _⟩, h1, h2, h3, by simp [Value.ownBlock], by simp [Value.ownBlock], by simp [Value.ownBlock], hS0, hS⟩
theorem Dk.drew0 {w : World} {D sb nb m S : Nat} {wv : Value} {s f : List Int} (h : Dk w D sb nb wv m S s f) : Dk w.drew D sb nb wv m S s f := h.keep (Below.refl _ _).drew
theorem dn_blocks (w : World) (Z : Array Value) (hZ : Z = ((zeros 4096).map u8V).toArray) (sb nb : Nat) (h : (sb = w.heap.size ∧ nb = w.heap.size + 1) ∨ (sb = w.heap.size + 1 ∧ nb = w.heap.size)) :
    Dk (((w.alloc (.cells Z 5)).alloc (.cells Z 5)).alloc (.cells #[.slice (some ⟨sb, 0, none⟩) 4096 4096, .slice (some ⟨nb, 0, none⟩) 4096 4096, .slice none 0 0, .int .i64 (-1)] 141)) (w.heap.size + 1 + 1) sb nb (.slice none 0 0) 0 64 (zeros 4096) (zeros 4096) ∧
    Below w.heap.size w (((w.alloc (.cells Z 5)).alloc (.cells Z 5)).alloc (.cells #[.slice (some ⟨sb, 0, none⟩) 4096 4096, .slice (some ⟨nb, 0, none⟩) 4096 4096, .slice none 0 0, .int .i64 (-1)] 141)) := by
  subst hZ
  have k0 : BK (((w.alloc (.cells ((zeros 4096).map u8V).toArray 5)).alloc (.cells ((zeros 4096).map u8V).toArray 5)).alloc (.cells #[.slice (some ⟨sb, 0, none⟩) 4096 4096, .slice (some ⟨nb, 0, none⟩) 4096 4096, .slice none 0 0, .int .i64 (-1)] 141)) w.heap.size (zeros 4096) :=
    ((bk_new w _).keep (Go.Joins.below_alloc1 _ _)).keep (Go.Joins.below_alloc1 _ _)
  have k1 : BK (((w.alloc (.cells ((zeros 4096).map u8V).toArray 5)).alloc (.cells ((zeros 4096).map u8V).toArray 5)).alloc (.cells #[.slice (some ⟨sb, 0, none⟩) 4096 4096, .slice (some ⟨nb, 0, none⟩) 4096 4096, .slice none 0 0, .int .i64 (-1)] 141)) (w.heap.size + 1) (zeros 4096) := by
    have := (bk_new (w.alloc (.cells ((zeros 4096).map u8V).toArray 5)) (zeros 4096)).keep (Go.Joins.below_alloc1 _ (.cells #[.slice (some ⟨sb, 0, none⟩) 4096 4096, .slice (some ⟨nb, 0, none⟩) 4096 4096, .slice none 0 0, .int .i64 (-1)] 141))
    rwa [size_alloc1] at this
  have kD := heap_alloc_new ((w.alloc (.cells ((zeros 4096).map u8V).toArray 5)).alloc (.cells ((zeros 4096).map u8V).toArray 5)) (.cells #[.slice (some ⟨sb, 0, none⟩) 4096 4096, .slice (some ⟨nb, 0, none⟩) 4096 4096, .slice none 0 0, .int .i64 (-1)] 141)
  rw [size_alloc1, size_alloc1] at kD
  have hb : Below w.heap.size w (((w.alloc (.cells ((zeros 4096).map u8V).toArray 5)).alloc (.cells ((zeros 4096).map u8V).toArray 5)).alloc (.cells #[.slice (some ⟨sb, 0, none⟩) 4096 4096, .slice (some ⟨nb, 0, none⟩) 4096 4096, .slice none 0 0, .int .i64 (-1)] 141)) :=
    (((Below.refl _ _).alloc (Nat.le_refl _) _).alloc (by rw [size_alloc1]; omega) _).alloc (by rw [size_alloc1, size_alloc1]; omega) _
  refine ⟨?_, hb⟩
  rcases h with ⟨rfl, rfl⟩ | ⟨rfl, rfl⟩
  · exact dk_new (S := 64) kD k0 k1 (zeros_len _) (by omega) (by omega) (by omega) (by decide) (by decide)
  · exact dk_new (S := 64) kD k1 k0 (zeros_len _) (by omega) (by omega) (by omega) (by decide) (by decide)
set_option maxRecDepth 100000 in
set_option maxHeartbeats 400000 in
theorem dnew_is (w : World) : Calls Tryz.prog 21 #[.int .i64 64] w fun e w' => ∃ D sb nb, e = .returned (.tuple #[.pointer (some ⟨D, 0, none⟩), .int .i64 0]) ∧ Dk w' D sb nb (.slice none 0 0) 0 64 (zeros 4096) (zeros 4096) ∧ w.heap.size ≤ D ∧ w.heap.size ≤ sb ∧ w.heap.size ≤ nb ∧ Below w.heap.size w w' := by
  have hmk : ∀ w : World, (mkB (.int .i64 4096) (.int .i64 4096)).run Tryz.prog w = .ok (.slice (some ⟨w.heap.size, 0, none⟩) 4096 4096) (w.alloc (.cells ((zeros 4096).map u8V).toArray 5)) := fun w => mkB_run w 4096 (by decide)
  obtain ⟨Z, hZ⟩ : ∃ Z, Z = ((zeros 4096).map u8V).toArray := ⟨_, rfl⟩
  rw [← hZ] at hmk
  have HZ := Lib.hid hZ
  clear hZ
  go_enter Tryz.func21, Tryz.ntmps21
  go_upto_region 4 with fail
  go_region
  · have HA := Lib.hid (dn_blocks w Z HZ.out (w.heap.size) (w.heap.size + 1) (.inl ⟨rfl, rfl⟩))
    clear hmk HZ
    go_wp2_with fail
    go_ret2
    exact ⟨_, _, _, rfl, HA.out.1.drew0, by omega, by omega, by omega, HA.out.2.drew⟩
  · have HA := Lib.hid (dn_blocks w Z HZ.out (w.heap.size + 1) (w.heap.size) (.inr ⟨rfl, rfl⟩))
    clear hmk HZ
    go_wp2_with fail
    go_ret2
    exact ⟨_, _, _, rfl, HA.out.1.drew0, by omega, by omega, by omega, HA.out.2.drew⟩
end Go.Proofs.YtnbhohaphmilmaaGreatDoor
