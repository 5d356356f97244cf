/- Walks of ringtop's rvRest, rvLoop, rvLoops. The walks of package spread at any run: Pick, Tick. -/
import Derived.Test.YtpmegpmiijhehaaGreatDoorTpC
import Derived.Test.YtpmegpmiijhehaaGreatDoorProcPlain
import Derived.BigQuiet
namespace Go.Proofs.YtpmegpmiijhehaaGreatDoor
open Go.RowKit
set_option linter.unusedVariables false
set_option linter.unusedSimpArgs false
/-- the program that goes round -/
def loopL : List CodeLaw.Ins := [⟨14, 1, 1, 1⟩, ⟨19, 0, 0, -4⟩]
theorem u64_mod (k n : Int) (h0 : 0 < n) (h9 : n < 1000) : ∃ r : Nat, (r : Int) < n ∧ wrap64 ((IntKind.u64.wrap k).tmod n) = r := by
  have hk : 0 ≤ IntKind.u64.wrap k := by
    have e : IntKind.u64.wrap k = k % 18446744073709551616 := by simp [IntKind.wrap, IntKind.signed, IntKind.bits]
    rw [e]
    exact Int.emod_nonneg _ (by decide)
  rw [Int.tmod_eq_emod_of_nonneg hk]
  have h1 := Int.emod_nonneg (IntKind.u64.wrap k) (show n ≠ 0 by omega)
  have h2 := Int.emod_lt_of_pos (IntKind.u64.wrap k) h0
  rw [IntWalk.wrap64_in _ (by omega)]
  exact ⟨((IntKind.u64.wrap k) % n).toNat, by omega, by omega⟩
theorem rest_is (w : World) (k : Int) {n : Int} (h0 : 0 < n) (h9 : n < 1000) : Calls Tryz.prog 4 #[.int .i64 k, .int .i64 n] w fun e w' => ∃ r : Nat, (r : Int) < n ∧ e = .returned (.int .i64 r) ∧ w' = w := by
  obtain ⟨r, hr, er⟩ := u64_mod k n h0 h9
  have hw : IntKind.u64.wrap n = n := IntWalk.u64_in n (by omega)
  have hn : ¬ n = 0 := by omega
  have HR := Lib.hid hr
  go_enter Tryz.func4, Tryz.ntmps4
  go_wp2_with fail
  go_ret
  exact ⟨r, HR.out, by rw [er]; rfl, rfl⟩
theorem loop_is (w : World) : Calls Tryz.prog 13 #[] w fun e w' => ∃ b, w.heap.size ≤ b ∧ b < w'.heap.size ∧ e = .returned (.slice (some ⟨b, 0, none⟩) 2 2) ∧ InsL w' (.slice (some ⟨b, 0, none⟩) 2 2) loopL ∧ Below w.heap.size w w' := by
  have hal := Go.Joins.below_alloc1 w (.cells #[.int .i64 14, .int .i64 1, .int .i64 1, .int .i64 1, .int .i64 19, .int .i64 0, .int .i64 0, .int .i64 (-4)] 115)
  have hr := row_new w 115 #[.int .i64 14, .int .i64 1, .int .i64 1, .int .i64 1, .int .i64 19, .int .i64 0, .int .i64 0, .int .i64 (-4)]
  have HA := Lib.hid hal
  have HR := Lib.hid hr
  clear hal hr
  go_enter Tryz.func13, Tryz.ntmps13
  go_wp2_with fail
  go_ret
  refine ⟨w.heap.size, Nat.le_refl _, by simp, rfl, ⟨w.heap.size, 2, rfl, fun i x hx => ?_⟩, HA.out⟩
  match i, hx with
  | 0, hx => injection hx with hx; subst hx; exact ⟨HR.out.cell 0, HR.out.cell 1, HR.out.cell 2, HR.out.cell 3⟩
  | 1, hx => injection hx with hx; subst hx; exact ⟨HR.out.cell 4, HR.out.cell 5, HR.out.cell 6, HR.out.cell 7⟩
theorem infoIL : (Tryz.prog.info? 47).map (fun i => (i.zero, i.size, i.bytes)) = some (some (.slice none 0 0), 1, 24) := by kernel_rfl
def apIL := Builtin.append_ #[26, 26] 26
theorem apIL_eq : Builtin.append_ #[26, 26] 26 = apIL := rfl
/-- so many programs that go round -/
structure LpL (B : Nat) (w : World) (v : Value) (n : Nat) (xs : List Value) : Prop where
  own : w.ownsRow B 47 1 v n xs
  len : xs.length = n
  one : ∀ x ∈ xs, ∃ b, x = .slice (some ⟨b, 0, none⟩) 2 2 ∧ b < w.heap.size ∧ InsL w x loopL ∧ v.ownBlock ≠ some b
theorem InsL.upd {S : Nat → Prop} {w w' : World} {b c : Nat} {l : List CodeLaw.Ins} {L : Nat} (h : InsL w (.slice (some ⟨b, 0, none⟩) L c) l) (hu : Upd S w w') (hn : ¬ S b) : InsL w' (.slice (some ⟨b, 0, none⟩) L c) l := by
  obtain ⟨b', cap, e, hc⟩ := h
  injection e with e e1 e2
  injection e with e
  injection e with e
  subst e
  refine ⟨b, cap, by rw [e1, e2], fun i x hx => ?_⟩
  obtain ⟨c0, c1, c2, c3⟩ := hc i x hx
  have hl : b < w.heap.size := World.block_lt_of_cell? w _ c0
  exact ⟨(hu.cell hl hn).trans c0, (hu.cell hl hn).trans c1, (hu.cell hl hn).trans c2, (hu.cell hl hn).trans c3⟩
theorem LpL.upd {B n : Nat} {S : Nat → Prop} {w w' : World} {v : Value} {xs : List Value} (h : LpL B w v n xs) (hu : Upd S w w') (hS : ∀ b, b < w.heap.size → ¬ S b) : LpL B w' v n xs :=
  ⟨hu.owns h.own (fun g hg => hS g (h.own.lt g hg).2), h.len, fun x hx => by
    obtain ⟨b, rfl, hb, hi, hv⟩ := h.one x hx
    exact ⟨b, rfl, Nat.lt_of_lt_of_le hb hu.size, hi.upd hu (hS b hb), hv⟩⟩
theorem LpL.keep {B n : Nat} {w w' : World} {v : Value} {xs : List Value} (h : LpL B w v n xs) (hb : Below w.heap.size w w') : LpL B w' v n xs := h.upd (S := fun _ => False) (Upd.below hb) (fun _ _ e => e)
theorem LpL.push {B n : Nat} {w w1 : World} {v : Value} {xs : List Value} (h : LpL B w v n xs) (hn : n < 100) {b : Nat} (h0 : w.heap.size ≤ b) (h1 : b < w1.heap.size) (hi : InsL w1 (.slice (some ⟨b, 0, none⟩) 2 2) loopL) (hb : Below w.heap.size w w1) (hB : B ≤ w.heap.size) :
    ∃ v' w', (apIL #[v, .slice (some ⟨w1.heap.size, 0, none⟩) 1 1]).run Tryz.prog (w1.alloc (.cells #[.slice (some ⟨b, 0, none⟩) 2 2] 47)) = .ok v' w' ∧ LpL B w' v' (n + 1) (xs ++ [.slice (some ⟨b, 0, none⟩) 2 2]) ∧ Below B w w' := by
  have hal := Go.Joins.below_alloc1 w1 (.cells #[.slice (some ⟨b, 0, none⟩) 2 2] 47)
  have hb2 := hb.trans (hal.mono hb.size)
  have z := hb2.size
  have za := hal.size
  obtain ⟨i0, i1, hz0, hz1, hz2⟩ := info_parts infoIL
  obtain ⟨v', w', hr, ho, hg, hd⟩ := run_append_fresh (P := Tryz.prog) (w1.alloc (.cells #[.slice (some ⟨b, 0, none⟩) 2 2] 47)) B 26 26 47 i0 (.slice none 0 0) 1 24 Tryz.underlying26 i1 hz0 hz1 hz2 rfl (by decide) v n xs (owns_keep h.own hb2) ⟨w1.heap.size, 0, none⟩ 1 1 [.slice (some ⟨b, 0, none⟩) 2 2] rfl (cells1_new w1 (.slice (some ⟨b, 0, none⟩) 2 2) 47) (by simp [Value.oneCell']) (by unfold maxLen; omega) (by omega) (by omega)
  have zg := hg.size
  have hBw := (Below.refl B _).grown hg (by omega) (fun g hgg => (h.own.lt g hgg).1)
  refine ⟨v', w', hr, ⟨ho, by simp [h.len], fun x hx => ?_⟩, ?_⟩
  · rcases List.mem_append.1 hx with hx | hx
    · obtain ⟨b', rfl, hb', hi', hv'⟩ := h.one x hx
      refine ⟨b', rfl, by omega, (hi'.keep hb2).upd (Upd.grown0 (S := fun j => v.ownBlock = some j) hg (fun j e _ => e)) hv', ?_⟩
      rcases hd with e | ⟨g, hg1, e⟩
      · rw [e]; exact hv'
      · rw [e]; intro q; injection q with q; omega
    · obtain rfl : x = .slice (some ⟨b, 0, none⟩) 2 2 := by simpa using hx
      have hvb : v.ownBlock ≠ some b := fun e => by have := (h.own.lt b e).2; omega
      refine ⟨b, rfl, by omega, (hi.keep hal).upd (Upd.grown0 (S := fun j => v.ownBlock = some j) hg (fun j e _ => e)) hvb, ?_⟩
      rcases hd with e | ⟨g, hg1, e⟩
      · rw [e]; exact hvb
      · rw [e]; intro q; injection q with q; have := hal.size; omega
  · exact ((Upd.below hb2).toBelow hB (S := fun _ => False) (fun _ _ e => e)).trans hBw
attribute [local go_sem ↓] apIL_eq
set_option maxRecDepth 100000 in
theorem loops_is (w : World) {n : Nat} (hn : n < 100) : Calls Tryz.prog 6 #[.int .i64 n] w fun e w' => ∃ v xs, e = .returned v ∧ LpL w.heap.size w' v n xs ∧ Below w.heap.size w w' := by
  have n100 : (n : Int) < 100 := by omega
  go_enter Tryz.func6, Tryz.ntmps6
  go_wp2_with fail
  go_loopw [3, 5] (fun ov kv wr => ∃ k : Nat, k ≤ n ∧ kv = .int .i64 k ∧ Hid (∃ xs, LpL w.heap.size wr ov k xs) ∧ Hid (Below w.heap.size w wr)) (fun _ kv _ => n - (intOf kv).toNat)
  case atStart => exact ⟨0, Nat.zero_le _, rfl, Lib.hid ⟨[], World.ownsRow_nil _ _ _ _, rfl, fun x hx => by cases hx⟩, Lib.hid (Below.refl _ _)⟩
  case round =>
    obtain ⟨k, hk0, rfl, HL, HB⟩ := hrel
    by_cases hk : k < n
    · have i1 : (k : Int) < n := by omega
      have HLP := Lib.hid (loop_is wr)
      go_upto_region 5 with (go_at_call 13; refine HLP.out.mono ?_; rintro e1 w1 ⟨b, hb0, hb1, rfl, hi1, hw1⟩; obtain ⟨xs, hl⟩ := HL.out; obtain ⟨v', w', hr', hl', hbb⟩ := hl.push (by omega) hb0 hb1 hi1 hw1 HB.out.size; have HL1 := Lib.hid hl'; have HB1 := Lib.hid (HB.out.trans hbb); clear hl hl' hbb hi1 hw1)
      go_wp2_with fail
      go_roundw
      case rel => exact ⟨k + 1, by omega, by go_num, Lib.hid ⟨_, HL1.out⟩, HB1⟩
      case measure => simp [intOf]; omega
    · obtain rfl : k = n := by omega
      go_wp2_with fail
      go_ret
      obtain ⟨xs, hl⟩ := HL.out
      exact ⟨_, xs, rfl, hl, HB.out⟩
end Go.Proofs.YtpmegpmiijhehaaGreatDoor
namespace Go.Proofs.YtpmegpmiijhehaaGreatDoor
open Go.RowKit
set_option linter.unusedVariables false
set_option linter.unusedSimpArgs false
section
variable {w w' : World} {R cap : Nat} {ad : Option Addr} {cpus ticks pin : Int} {l : List Tk}
/-- who runs on a processor: 0 is nobody -/
def onT (l : List Tk) (c : Int) : Int := match onG l c with
  | none => 0
  | some i => match l[i]? with
    | none => 0
    | some x => x.t
theorem onG_some {c : Int} {i : Nat} (h : onG l c = some i) : ∃ x, l[i]? = some x ∧ x.cpu = c := by
  unfold onG at h
  rw [List.findIdx?_eq_some_iff_getElem] at h
  obtain ⟨hi, e, _⟩ := h
  exact ⟨l[i], List.getElem?_eq_getElem hi, by simpa using e⟩
set_option maxRecDepth 100000 in
set_option maxHeartbeats 400000 in
theorem pick_yes {m i : Nat} {x : Tk} (h : RunG w R ad cap m ticks pin l) {c : Nat} (hc : c < m) (ho : onG l c = some i) (hx : l[i]? = some x) : Calls Tryz.prog 15 #[.pointer (some ⟨R, 0, none⟩), .int .i64 c] w fun e w' => e = .returned (.tuple #[.int .i64 x.t, .int .i64 0]) ∧ w = w' := by
  have c0 := h.c0
  have j1 : ¬ (c : Int) < 0 := by omega
  have j2 : (c : Int) < m := by omega
  obtain ⟨T, C, rfl, hr⟩ := h.rows (by have := (List.getElem?_eq_some_iff.1 hx).1; omega)
  have HO := Lib.hid (onG_is h c)
  rw [ho, ptrG_some] at HO
  have t0 := (hr.cell (i * 15)).trans (hr.at hx).c0
  clear h ho hr hx
  go_enter Tryz.func15, Tryz.ntmps15
  go_wp2_with (go_at_call 47; refine HO.out.mono ?_; rintro e1 w1 ⟨rfl, rfl⟩)
  go_ret2
  exact ⟨rfl, rfl⟩
set_option maxRecDepth 100000 in
set_option maxHeartbeats 400000 in
theorem pick_no {m : Nat} (h : RunG w R ad cap m ticks pin l) {c : Nat} (hc : c < m) (ho : onG l c = none) : Calls Tryz.prog 15 #[.pointer (some ⟨R, 0, none⟩), .int .i64 c] w fun e w' => e = .returned (.tuple #[.int .i64 0, .int .i64 4]) ∧ w = w' := by
  have c0 := h.c0
  have j1 : ¬ (c : Int) < 0 := by omega
  have j2 : (c : Int) < m := by omega
  have HO := Lib.hid (onG_is h c)
  rw [ho, ptrG_none] at HO
  clear h ho
  go_enter Tryz.func15, Tryz.ntmps15
  go_wp2_with (go_at_call 47; refine HO.out.mono ?_; rintro e1 w1 ⟨rfl, rfl⟩)
  go_ret2
  exact ⟨rfl, rfl⟩
set_option maxRecDepth 100000 in
theorem cost10_is (w : World) : Calls Tryz.prog 65 #[.int .i64 10] w fun e w' => e = .returned (.tuple #[.int .i64 104857, .int .i64 0]) ∧ w = w' := by
  go_enter Tryz.func65, Tryz.ntmps65
  go_wp2_with fail
  go_ret2
  exact ⟨rfl, rfl⟩
set_option maxRecDepth 100000 in
set_option maxHeartbeats 400000 in
theorem time_is {m : Nat} (h : RunG w R ad cap m ticks pin l) (h1 : 1 ≤ m) (h4 : m ≤ 4) : Calls Tryz.prog 66 #[.pointer (some ⟨R, 0, none⟩)] w fun e w' => ∃ q, e = .returned (.int .i64 q) ∧ Below w.heap.size w w' := by
  have c0 := h.c0
  have c1 := h.c1
  clear h
  have : m = 1 ∨ m = 2 ∨ m = 3 ∨ m = 4 := by omega
  rcases this with rfl | rfl | rfl | rfl
  all_goals
    clear h1 h4
    go_enter Tryz.func66, Tryz.ntmps66
    go_upto_region 1 with fail
    go_quiet (fail)
    generalize hnq : w.drewN _ = w9 at *
    go_wp2_with fail
    go_ret
    exact ⟨_, rfl, by rw [← hnq]; exact below_drewN (Below.refl _ _) _⟩
/-- the tasks behind a tick of a processor -/
def stepAt (l : List Tk) (i : Nat) : List Tk := match l[i]? with
  | none => l
  | some x => l.set i { x with v := x.v + 104857, cpu := -1 }
def tickL (l : List Tk) (c : Int) (m : Nat) : List Tk := match onG l c with
  | none => fillG l m
  | some i => fillG (stepAt l i) m
theorem onG_setV {c : Int} {i : Nat} {x : Tk} (h : onG l c = some i) (hx : l[i]? = some x) (v : Int) : onG (l.set i { x with v := v }) c = some i := by
  unfold onG at h ⊢
  rw [List.findIdx?_eq_some_iff_getElem] at h ⊢
  obtain ⟨hi, e, hj⟩ := h
  obtain ⟨hi2, e2⟩ := List.getElem?_eq_some_iff.1 hx
  refine ⟨by simpa using hi, ?_, fun j hj2 => ?_⟩
  · simp only [List.getElem_set_self]
    rw [← e2]
    exact e
  · rw [List.getElem_set_ne (by omega)]
    exact hj j hj2
set_option maxRecDepth 100000 in
set_option maxHeartbeats 1000000 in
theorem tick_no {m : Nat} (h : RunG w R ad cap m ticks (onePin m) l) {c : Nat} (hc : c < m) (hm : m ≤ 4) (t0 : 0 ≤ ticks) (t1 : ticks < 1000000) (ho : onG l c = none) : Calls Tryz.prog 22 #[.pointer (some ⟨R, 0, none⟩), .int .i64 c] w fun e w' => e = .returned (.int .i64 0) ∧ RunG w' R ad cap m (ticks + 1) (onePin m) (fillG l m) ∧ Upd (rS R ad) w w' := by
  have j1 : ¬ (c : Int) < 0 := by omega
  have j2 : (c : Int) < m := by omega
  have c0 := h.c0
  have c1 := h.c1
  have f1 := h.fz 1
  have hmx := h.mx
  have HH1 := Lib.hid (h.setTicks (ticks + 1))
  have HU1 : Hid (Upd (rS R ad) w (w.setCell ⟨R, 1, none⟩ (.int .i64 (ticks + 1)))) := Lib.hid (Upd.set w _ (.inl rfl))
  clear h
  obtain ⟨w1, hw1⟩ : ∃ w1, w1 = w.setCell ⟨R, 1, none⟩ (.int .i64 (ticks + 1)) := ⟨_, rfl⟩
  rw [← hw1] at HH1 HU1
  have HON := Lib.hid (onG_is HH1.out c)
  rw [ho, ptrG_none] at HON
  have HTI := Lib.hid (time_is HH1.out (by omega) hm)
  have HO := Lib.hid ho
  have HM := Lib.hid hm
  clear ho
  have HW1 := Lib.hid hw1
  clear hw1
  go_enter Tryz.func22, Tryz.ntmps22
  go_upto_region 4 with fail
  rw [← HW1.out]
  clear HW1 c0 c1 f1 t0 t1
  go_upto_region 15 with (first | (go_at_call 47; refine HON.out.mono ?_; rintro e1 w2 ⟨rfl, rfl⟩) | (go_at_call 66; refine HTI.out.mono ?_; rintro e2 w2 ⟨q, rfl, hb2⟩; have HH2 := Lib.hid (HH1.out.keep hb2); have HU2 := Lib.hid (HU1.out.trans (Upd.below hb2)); clear hb2))
  have c3 := HH2.out.c3
  obtain ⟨n, hn⟩ : ∃ n, n = l.length := ⟨_, rfl⟩
  rw [← hn] at c3 hmx
  have HN := Lib.hid hn
  clear hn
  have HON2 := Lib.hid (onG_is HH2.out c)
  rw [HO.out, ptrG_none] at HON2
  have HF := Lib.hid (fillG_is HH2.out (onePin_ok (by have := HM.out; omega)) (by have := HM.out; omega))
  go_wp2_with fail
  go_loop [85] (fun i => ∃ k : Nat, k ≤ n ∧ i = .int .i64 k) (fun i => n - (intOf i).toNat)
  case atStart => exact ⟨0, Nat.zero_le _, rfl⟩
  case round =>
    obtain ⟨k, hk0, rfl⟩ := hrel
    by_cases hk : k < n
    · have jk : (k : Int) < n := by omega
      obtain ⟨T', C, hT', hr⟩ := HH2.out.rows (by have := HN.out; omega)
      subst hT'
      obtain ⟨y, hy⟩ : ∃ y, l[k]? = some y := ⟨l[k]'(by have := HN.out; omega), List.getElem?_eq_getElem _⟩
      have t13 := (hr.cell (k * 15 + 13)).trans (hr.at hy).c13
      clear hr hy
      go_wp2_with fail
      go_round
      case rel => exact ⟨k + 1, by omega, by go_num⟩
      case measure => simp [intOf]; omega
    · obtain rfl : k = n := by omega
      go_wp2_with (first | (go_at_call 47; refine HON2.out.mono ?_; rintro e3 w3 ⟨rfl, rfl⟩) | (go_at_call 68; refine HF.out.mono ?_; rintro e4 w4 ⟨rfl, hr4, hu4⟩; have HR4 := Lib.hid hr4; have HU4 := Lib.hid (HU2.out.trans hu4); clear hr4 hu4))
      go_ret
      exact ⟨rfl, HR4.out, HU4.out⟩
set_option maxRecDepth 100000 in
set_option maxHeartbeats 1000000 in
theorem tick_yes {m T i : Nat} {x : Tk} (h : RunG w R (some ⟨T, 0, none⟩) cap m ticks (onePin m) l) {c : Nat} (hc : c < m) (hm : m ≤ 4) (t0 : 0 ≤ ticks) (t1 : ticks < 1000000) (ho : onG l c = some i) (hx : l[i]? = some x) (v0 : 0 ≤ x.v) (v1 : x.v < 1000000000000) : Calls Tryz.prog 22 #[.pointer (some ⟨R, 0, none⟩), .int .i64 c] w fun e w' => e = .returned (.int .i64 0) ∧ RunG w' R (some ⟨T, 0, none⟩) cap m (ticks + 1) (onePin m) (fillG (stepAt l i) m) ∧ Upd (rS R (some ⟨T, 0, none⟩)) w w' := by
  have j1 : ¬ (c : Int) < 0 := by omega
  have j2 : (c : Int) < m := by omega
  have c0 := h.c0
  have c1 := h.c1
  have f1 := h.fz 1
  have hmx := h.mx
  have hil := (List.getElem?_eq_some_iff.1 hx).1
  obtain ⟨T', C, e, hr⟩ := h.rows (by omega)
  injection e with e; injection e with e; subst e
  have ne1 := hr.ne
  have ne2 : R ≠ T := fun e => ne1 e.symm
  have a1 := (hr.cell (i * 15 + 1)).trans (hr.at hx).c1
  have a2 := (hr.cell (i * 15 + 2)).trans (hr.at hx).c2
  have a9 := (hr.cell (i * 15 + 9)).trans (hr.at hx).c9
  have f9 := hr.row.fz (i * 15 + 9)
  have HCO := Lib.hid (cost10_is (w.setCell ⟨R, 1, none⟩ (.int .i64 (ticks + 1))))
  have HON := Lib.hid (onG_is (h.setTicks (ticks + 1)) c)
  rw [ho, ptrG_some] at HON
  have hx2 : (l.set i { x with v := x.v + 104857 })[i]? = some { x with v := x.v + 104857 } := by rw [List.getElem?_set]; simp [hil]
  have HH1 := Lib.hid ((h.setTicks (ticks + 1)).setV hx (x.v + 104857))
  have HU1 : Hid (Upd (rS R (some ⟨T, 0, none⟩)) w ((w.setCell ⟨R, 1, none⟩ (.int .i64 (ticks + 1))).setCell ⟨T, i * 15 + 9, none⟩ (.int .i64 (x.v + 104857)))) := Lib.hid ((Upd.set w _ (.inl rfl)).trans (Upd.set _ _ (.inr ⟨_, rfl, rfl⟩)))
  have HON0 := Lib.hid (onG_is HH1.out c)
  rw [onG_setV ho hx, ptrG_some] at HON0
  have HTI := Lib.hid (time_is HH1.out (by omega) hm)
  have HX2 := Lib.hid hx2
  have HM := Lib.hid hm
  have HSA : Hid (stepAt l i = (l.set i { x with v := x.v + 104857 }).set i { x with v := x.v + 104857, cpu := -1 }) := Lib.hid (by unfold stepAt; rw [hx]; simp)
  have HOS := Lib.hid (onG_setV ho hx (x.v + 104857))
  have HLN : Hid ((l.set i { x with v := x.v + 104857 }).length = l.length) := Lib.hid (by simp)
  clear h hr ho hx hx2 hil
  go_enter Tryz.func22, Tryz.ntmps22
  go_upto_region 14 with (first | (go_at_call 47; refine HON.out.mono ?_; rintro e1 w2 ⟨rfl, rfl⟩) | (go_at_call 65; refine HCO.out.mono ?_; rintro e1 w2 ⟨rfl, rfl⟩))
  generalize (w.setCell ⟨R, 1, none⟩ (.int .i64 (ticks + 1))).setCell ⟨T, i * 15 + 9, none⟩ (.int .i64 (x.v + 104857)) = w1 at *
  clear c0 c1 f1 t0 t1 a1 a2 a9 f9 v0 v1 HON HCO
  generalize l.set i { x with v := x.v + 104857 } = l1 at *
  go_upto_region 15 with (go_at_call 66; refine HTI.out.mono ?_; rintro e2 w2 ⟨q, rfl, hb2⟩; have HH2 := Lib.hid (HH1.out.keep hb2); have HU2 := Lib.hid (HU1.out.trans (Upd.below hb2)); clear hb2)
  have c3 := HH2.out.c3
  obtain ⟨n, hn⟩ : ∃ n, n = l1.length := ⟨_, rfl⟩
  rw [← hn] at c3
  have hmx2 : (n : Int) ≤ 1000 := by rw [hn, HLN.out]; exact hmx
  clear hmx
  have HN := Lib.hid hn
  clear hn
  have HON2 := Lib.hid (onG_is HH2.out c)
  rw [HOS.out, ptrG_some] at HON2
  have HWT := Lib.hid (waitG_is HH2.out HX2.out)
  go_wp2_with fail
  go_loop [85] (fun i => ∃ k : Nat, k ≤ n ∧ i = .int .i64 k) (fun i => n - (intOf i).toNat)
  case atStart => exact ⟨0, Nat.zero_le _, rfl⟩
  case round =>
    obtain ⟨k, hk0, rfl⟩ := hrel
    by_cases hk : k < n
    · have jk : (k : Int) < n := by omega
      obtain ⟨T', C, hT', hr⟩ := HH2.out.rows (by have := HN.out; omega)
      injection hT' with hT'; injection hT' with hT'; subst hT'
      obtain ⟨y, hy⟩ : ∃ y, l1[k]? = some y := ⟨l1[k]'(by have := HN.out; omega), List.getElem?_eq_getElem _⟩
      have t13 := (hr.cell (k * 15 + 13)).trans (hr.at hy).c13
      clear hr hy
      go_wp2_with fail
      go_round
      case rel => exact ⟨k + 1, by omega, by go_num⟩
      case measure => simp [intOf]; omega
    · obtain rfl : k = n := by omega
      go_wp2_with (first | (go_at_call 47; refine HON2.out.mono ?_; rintro e3 w3 ⟨rfl, rfl⟩) | (go_at_call 67; refine HWT.out.mono ?_; rintro e3 w3 ⟨rfl, hr3, hu3⟩; have HU3 := Lib.hid (HU2.out.trans hu3); have HF := Lib.hid (fillG_is hr3 (onePin_ok (by have := HM.out; omega)) (by have := HM.out; omega)); clear hr3 hu3) | (go_at_call 68; refine HF.out.mono ?_; rintro e4 w4 ⟨rfl, hr4, hu4⟩; have HR4 := Lib.hid hr4; have HU4 := Lib.hid (HU3.out.trans hu4); clear hr4 hu4))
      go_ret
      exact ⟨rfl, by rw [HSA.out]; exact HR4.out, HU4.out⟩
/-- a tick of a processor -/
theorem tickG_is {m : Nat} (h : RunG w R ad cap m ticks (onePin m) l) {c : Nat} (hc : c < m) (hm : m ≤ 4) (t0 : 0 ≤ ticks) (t1 : ticks < 1000000) (hv : ∀ (i : Nat) (x : Tk), l[i]? = some x → 0 ≤ x.v ∧ x.v < 1000000000000) : Calls Tryz.prog 22 #[.pointer (some ⟨R, 0, none⟩), .int .i64 c] w fun e w' => e = .returned (.int .i64 0) ∧ RunG w' R ad cap m (ticks + 1) (onePin m) (tickL l c m) ∧ Upd (rS R ad) w w' := by
  cases ho : onG l c with
  | none =>
    have := tick_no h hc hm t0 t1 ho
    unfold tickL
    rw [ho]
    exact this
  | some i =>
    obtain ⟨x, hx, -⟩ := onG_some ho
    obtain ⟨T, C, rfl, -⟩ := h.rows (by have := (List.getElem?_eq_some_iff.1 hx).1; omega)
    have := tick_yes h hc hm t0 t1 ho hx (hv i x hx).1 (hv i x hx).2
    unfold tickL
    rw [ho]
    exact this
end
end Go.Proofs.YtpmegpmiijhehaaGreatDoor
