/- The walks of package spread at any run: Pick, Tick. Runs of package spread: all processors tick. No walk here. The plain law of ringtop.TopTurnsGo: who has had how many turns. No walk here. -/
import Derived.Test.YtnmlapiekfkbaaaGreatDoorProcPlain
import Derived.BigQuiet
namespace Go.Proofs.YtnmlapiekfkbaaaGreatDoor
open Go.RowKit
set_option linter.unusedVariables false
set_option linter.unusedSimpArgs false
section
variable {w w' : World} {R cap : Nat} {ad : Option Addr} {cpus ticks pin : Int} {l : List Tk}
/-- who runs on a processor: 0 is nobody -/
def onT (l : List Tk) (c : Int) : Int := match onG l c with
  | none => 0
  | some i => match l[i]? with
    | none => 0
    | some x => x.t
theorem onG_some {c : Int} {i : Nat} (h : onG l c = some i) : ∃ x, l[i]? = some x ∧ x.cpu = c := by
  unfold onG at h
  rw [List.findIdx?_eq_some_iff_getElem] at h
  obtain ⟨hi, e, _⟩ := h
  exact ⟨l[i], List.getElem?_eq_getElem hi, by simpa using e⟩
set_option maxRecDepth 100000 in
set_option maxHeartbeats 400000 in
theorem pick_yes {m i : Nat} {x : Tk} (h : RunG w R ad cap m ticks pin l) {c : Nat} (hc : c < m) (ho : onG l c = some i) (hx : l[i]? = some x) : Calls Tryz.prog 20 #[.pointer (some ⟨R, 0, none⟩), .int .i64 c] w fun e w' => e = .returned (.tuple #[.int .i64 x.t, .int .i64 0]) ∧ w = w' := by
  have c0 := h.c0
  have j1 : ¬ (c : Int) < 0 := by omega
  have j2 : (c : Int) < m := by omega
  obtain ⟨T, C, rfl, hr⟩ := h.rows (by have := (List.getElem?_eq_some_iff.1 hx).1; omega)
  have HO := Lib.hid (onG_is h c)
  rw [ho, ptrG_some] at HO
  have t0 := (hr.cell (i * 15)).trans (hr.at hx).c0
  clear h ho hr hx
  go_enter Tryz.func20, Tryz.ntmps20
  go_wp2_with (go_at_call 53; refine HO.out.mono ?_; rintro e1 w1 ⟨rfl, rfl⟩)
  go_ret2
  exact ⟨rfl, rfl⟩
set_option maxRecDepth 100000 in
set_option maxHeartbeats 400000 in
theorem pick_no {m : Nat} (h : RunG w R ad cap m ticks pin l) {c : Nat} (hc : c < m) (ho : onG l c = none) : Calls Tryz.prog 20 #[.pointer (some ⟨R, 0, none⟩), .int .i64 c] w fun e w' => e = .returned (.tuple #[.int .i64 0, .int .i64 4]) ∧ w = w' := by
  have c0 := h.c0
  have j1 : ¬ (c : Int) < 0 := by omega
  have j2 : (c : Int) < m := by omega
  have HO := Lib.hid (onG_is h c)
  rw [ho, ptrG_none] at HO
  clear h ho
  go_enter Tryz.func20, Tryz.ntmps20
  go_wp2_with (go_at_call 53; refine HO.out.mono ?_; rintro e1 w1 ⟨rfl, rfl⟩)
  go_ret2
  exact ⟨rfl, rfl⟩
set_option maxRecDepth 100000 in
theorem cost10_is (w : World) : Calls Tryz.prog 69 #[.int .i64 10] w fun e w' => e = .returned (.tuple #[.int .i64 104857, .int .i64 0]) ∧ w = w' := by
  go_enter Tryz.func69, Tryz.ntmps69
  go_wp2_with fail
  go_ret2
  exact ⟨rfl, rfl⟩
set_option maxRecDepth 100000 in
set_option maxHeartbeats 400000 in
theorem time_is {m : Nat} (h : RunG w R ad cap m ticks pin l) (h1 : 1 ≤ m) (h4 : m ≤ 4) : Calls Tryz.prog 70 #[.pointer (some ⟨R, 0, none⟩)] w fun e w' => ∃ q, e = .returned (.int .i64 q) ∧ Below w.heap.size w w' := by
  have c0 := h.c0
  have c1 := h.c1
  clear h
  have : m = 1 ∨ m = 2 ∨ m = 3 ∨ m = 4 := by omega
  rcases this with rfl | rfl | rfl | rfl
  all_goals
    clear h1 h4
    go_enter Tryz.func70, Tryz.ntmps70
    go_upto_region 1 with fail
    go_quiet (fail)
    generalize hnq : w.drewN _ = w9 at *
    go_wp2_with fail
    go_ret
    exact ⟨_, rfl, by rw [← hnq]; exact below_drewN (Below.refl _ _) _⟩
/-- the tasks behind a tick of a processor -/
def stepAt (l : List Tk) (i : Nat) : List Tk := match l[i]? with
  | none => l
  | some x => l.set i { x with v := x.v + 104857, cpu := -1 }
def tickL (l : List Tk) (c : Int) (m : Nat) : List Tk := match onG l c with
  | none => fillG l m
  | some i => fillG (stepAt l i) m
theorem onG_setV {c : Int} {i : Nat} {x : Tk} (h : onG l c = some i) (hx : l[i]? = some x) (v : Int) : onG (l.set i { x with v := v }) c = some i := by
  unfold onG at h ⊢
  rw [List.findIdx?_eq_some_iff_getElem] at h ⊢
  obtain ⟨hi, e, hj⟩ := h
  obtain ⟨hi2, e2⟩ := List.getElem?_eq_some_iff.1 hx
  refine ⟨by simpa using hi, ?_, fun j hj2 => ?_⟩
  · simp only [List.getElem_set_self]
    rw [← e2]
    exact e
  · rw [List.getElem_set_ne (by omega)]
    exact hj j hj2
set_option maxRecDepth 100000 in
set_option maxHeartbeats 1000000 in
theorem tick_no {m : Nat} (h : RunG w R ad cap m ticks (onePin m) l) {c : Nat} (hc : c < m) (hm : m ≤ 4) (t0 : 0 ≤ ticks) (t1 : ticks < 1000000) (ho : onG l c = none) : Calls Tryz.prog 27 #[.pointer (some ⟨R, 0, none⟩), .int .i64 c] w fun e w' => e = .returned (.int .i64 0) ∧ RunG w' R ad cap m (ticks + 1) (onePin m) (fillG l m) ∧ Upd (rS R ad) w w' := by
  have j1 : ¬ (c : Int) < 0 := by omega
  have j2 : (c : Int) < m := by omega
  have c0 := h.c0
  have c1 := h.c1
  have f1 := h.fz 1
  have hmx := h.mx
  have HH1 := Lib.hid (h.setTicks (ticks + 1))
  have HU1 : Hid (Upd (rS R ad) w (w.setCell ⟨R, 1, none⟩ (.int .i64 (ticks + 1)))) := Lib.hid (Upd.set w _ (.inl rfl))
  clear h
  obtain ⟨w1, hw1⟩ : ∃ w1, w1 = w.setCell ⟨R, 1, none⟩ (.int .i64 (ticks + 1)) := ⟨_, rfl⟩
  rw [← hw1] at HH1 HU1
  have HON := Lib.hid (onG_is HH1.out c)
  rw [ho, ptrG_none] at HON
  have HTI := Lib.hid (time_is HH1.out (by omega) hm)
  have HO := Lib.hid ho
  have HM := Lib.hid hm
  clear ho
  have HW1 := Lib.hid hw1
  clear hw1
  go_enter Tryz.func27, Tryz.ntmps27
  go_upto_region 4 with fail
  rw [← HW1.out]
  clear HW1 c0 c1 f1 t0 t1
  go_upto_region 15 with (first | (go_at_call 53; refine HON.out.mono ?_; rintro e1 w2 ⟨rfl, rfl⟩) | (go_at_call 70; refine HTI.out.mono ?_; rintro e2 w2 ⟨q, rfl, hb2⟩; have HH2 := Lib.hid (HH1.out.keep hb2); have HU2 := Lib.hid (HU1.out.trans (Upd.below hb2)); clear hb2))
  have c3 := HH2.out.c3
  obtain ⟨n, hn⟩ : ∃ n, n = l.length := ⟨_, rfl⟩
  rw [← hn] at c3 hmx
  have HN := Lib.hid hn
  clear hn
  have HON2 := Lib.hid (onG_is HH2.out c)
  rw [HO.out, ptrG_none] at HON2
  have HF := Lib.hid (fillG_is HH2.out (onePin_ok (by have := HM.out; omega)) (by have := HM.out; omega))
  go_wp2_with fail
  go_loop [85] (fun i => ∃ k : Nat, k ≤ n ∧ i = .int .i64 k) (fun i => n - (intOf i).toNat)
  case atStart => exact ⟨0, Nat.zero_le _, rfl⟩
  case round =>
    obtain ⟨k, hk0, rfl⟩ := hrel
    by_cases hk : k < n
    · have jk : (k : Int) < n := by omega
      obtain ⟨T', C, hT', hr⟩ := HH2.out.rows (by have := HN.out; omega)
      subst hT'
      obtain ⟨y, hy⟩ : ∃ y, l[k]? = some y := ⟨l[k]'(by have := HN.out; omega), List.getElem?_eq_getElem _⟩
      have t13 := (hr.cell (k * 15 + 13)).trans (hr.at hy).c13
      clear hr hy
      go_wp2_with fail
      go_round
      case rel => exact ⟨k + 1, by omega, by go_num⟩
      case measure => simp [intOf]; omega
    · obtain rfl : k = n := by omega
      go_wp2_with (first | (go_at_call 53; refine HON2.out.mono ?_; rintro e3 w3 ⟨rfl, rfl⟩) | (go_at_call 72; refine HF.out.mono ?_; rintro e4 w4 ⟨rfl, hr4, hu4⟩; have HR4 := Lib.hid hr4; have HU4 := Lib.hid (HU2.out.trans hu4); clear hr4 hu4))
      go_ret
      exact ⟨rfl, HR4.out, HU4.out⟩
set_option maxRecDepth 100000 in
set_option maxHeartbeats 1000000 in
theorem tick_yes {m T i : Nat} {x : Tk} (h : RunG w R (some ⟨T, 0, none⟩) cap m ticks (onePin m) l) {c : Nat} (hc : c < m) (hm : m ≤ 4) (t0 : 0 ≤ ticks) (t1 : ticks < 1000000) (ho : onG l c = some i) (hx : l[i]? = some x) (v0 : 0 ≤ x.v) (v1 : x.v < 1000000000000) : Calls Tryz.prog 27 #[.pointer (some ⟨R, 0, none⟩), .int .i64 c] w fun e w' => e = .returned (.int .i64 0) ∧ RunG w' R (some ⟨T, 0, none⟩) cap m (ticks + 1) (onePin m) (fillG (stepAt l i) m) ∧ Upd (rS R (some ⟨T, 0, none⟩)) w w' := by
  have j1 : ¬ (c : Int) < 0 := by omega
  have j2 : (c : Int) < m := by omega
  have c0 := h.c0
  have c1 := h.c1
  have f1 := h.fz 1
  have hmx := h.mx
  have hil := (List.getElem?_eq_some_iff.1 hx).1
  obtain ⟨T', C, e, hr⟩ := h.rows (by omega)
  injection e with e; injection e with e; subst e
  have ne1 := hr.ne
  have ne2 : R ≠ T := fun e => ne1 e.symm
  have a1 := (hr.cell (i * 15 + 1)).trans (hr.at hx).c1
  have a2 := (hr.cell (i * 15 + 2)).trans (hr.at hx).c2
  have a9 := (hr.cell (i * 15 + 9)).trans (hr.at hx).c9
  have f9 := hr.row.fz (i * 15 + 9)
  have HCO := Lib.hid (cost10_is (w.setCell ⟨R, 1, none⟩ (.int .i64 (ticks + 1))))
  have HON := Lib.hid (onG_is (h.setTicks (ticks + 1)) c)
  rw [ho, ptrG_some] at HON
  have hx2 : (l.set i { x with v := x.v + 104857 })[i]? = some { x with v := x.v + 104857 } := by rw [List.getElem?_set]; simp [hil]
  have HH1 := Lib.hid ((h.setTicks (ticks + 1)).setV hx (x.v + 104857))
  have HU1 : Hid (Upd (rS R (some ⟨T, 0, none⟩)) w ((w.setCell ⟨R, 1, none⟩ (.int .i64 (ticks + 1))).setCell ⟨T, i * 15 + 9, none⟩ (.int .i64 (x.v + 104857)))) := Lib.hid ((Upd.set w _ (.inl rfl)).trans (Upd.set _ _ (.inr ⟨_, rfl, rfl⟩)))
  have HON0 := Lib.hid (onG_is HH1.out c)
  rw [onG_setV ho hx, ptrG_some] at HON0
  have HTI := Lib.hid (time_is HH1.out (by omega) hm)
  have HX2 := Lib.hid hx2
  have HM := Lib.hid hm
  have HSA : Hid (stepAt l i = (l.set i { x with v := x.v + 104857 }).set i { x with v := x.v + 104857, cpu := -1 }) := Lib.hid (by unfold stepAt; rw [hx]; simp)
  have HOS := Lib.hid (onG_setV ho hx (x.v + 104857))
  have HLN : Hid ((l.set i { x with v := x.v + 104857 }).length = l.length) := Lib.hid (by simp)
  clear h hr ho hx hx2 hil
  go_enter Tryz.func27, Tryz.ntmps27
  go_upto_region 14 with (first | (go_at_call 53; refine HON.out.mono ?_; rintro e1 w2 ⟨rfl, rfl⟩) | (go_at_call 69; refine HCO.out.mono ?_; rintro e1 w2 ⟨rfl, rfl⟩))
  generalize (w.setCell ⟨R, 1, none⟩ (.int .i64 (ticks + 1))).setCell ⟨T, i * 15 + 9, none⟩ (.int .i64 (x.v + 104857)) = w1 at *
  clear c0 c1 f1 t0 t1 a1 a2 a9 f9 v0 v1 HON HCO
  generalize l.set i { x with v := x.v + 104857 } = l1 at *
  go_upto_region 15 with (go_at_call 70; refine HTI.out.mono ?_; rintro e2 w2 ⟨q, rfl, hb2⟩; have HH2 := Lib.hid (HH1.out.keep hb2); have HU2 := Lib.hid (HU1.out.trans (Upd.below hb2)); clear hb2)
  have c3 := HH2.out.c3
  obtain ⟨n, hn⟩ : ∃ n, n = l1.length := ⟨_, rfl⟩
  rw [← hn] at c3
  have hmx2 : (n : Int) ≤ 1000 := by rw [hn, HLN.out]; exact hmx
  clear hmx
  have HN := Lib.hid hn
  clear hn
  have HON2 := Lib.hid (onG_is HH2.out c)
  rw [HOS.out, ptrG_some] at HON2
  have HWT := Lib.hid (waitG_is HH2.out HX2.out)
  go_wp2_with fail
  go_loop [85] (fun i => ∃ k : Nat, k ≤ n ∧ i = .int .i64 k) (fun i => n - (intOf i).toNat)
  case atStart => exact ⟨0, Nat.zero_le _, rfl⟩
  case round =>
    obtain ⟨k, hk0, rfl⟩ := hrel
    by_cases hk : k < n
    · have jk : (k : Int) < n := by omega
      obtain ⟨T', C, hT', hr⟩ := HH2.out.rows (by have := HN.out; omega)
      injection hT' with hT'; injection hT' with hT'; subst hT'
      obtain ⟨y, hy⟩ : ∃ y, l1[k]? = some y := ⟨l1[k]'(by have := HN.out; omega), List.getElem?_eq_getElem _⟩
      have t13 := (hr.cell (k * 15 + 13)).trans (hr.at hy).c13
      clear hr hy
      go_wp2_with fail
      go_round
      case rel => exact ⟨k + 1, by omega, by go_num⟩
      case measure => simp [intOf]; omega
    · obtain rfl : k = n := by omega
      go_wp2_with (first | (go_at_call 53; refine HON2.out.mono ?_; rintro e3 w3 ⟨rfl, rfl⟩) | (go_at_call 71; refine HWT.out.mono ?_; rintro e3 w3 ⟨rfl, hr3, hu3⟩; have HU3 := Lib.hid (HU2.out.trans hu3); have HF := Lib.hid (fillG_is hr3 (onePin_ok (by have := HM.out; omega)) (by have := HM.out; omega)); clear hr3 hu3) | (go_at_call 72; refine HF.out.mono ?_; rintro e4 w4 ⟨rfl, hr4, hu4⟩; have HR4 := Lib.hid hr4; have HU4 := Lib.hid (HU3.out.trans hu4); clear hr4 hu4))
      go_ret
      exact ⟨rfl, by rw [HSA.out]; exact HR4.out, HU4.out⟩
/-- a tick of a processor -/
theorem tickG_is {m : Nat} (h : RunG w R ad cap m ticks (onePin m) l) {c : Nat} (hc : c < m) (hm : m ≤ 4) (t0 : 0 ≤ ticks) (t1 : ticks < 1000000) (hv : ∀ (i : Nat) (x : Tk), l[i]? = some x → 0 ≤ x.v ∧ x.v < 1000000000000) : Calls Tryz.prog 27 #[.pointer (some ⟨R, 0, none⟩), .int .i64 c] w fun e w' => e = .returned (.int .i64 0) ∧ RunG w' R ad cap m (ticks + 1) (onePin m) (tickL l c m) ∧ Upd (rS R ad) w w' := by
  cases ho : onG l c with
  | none =>
    have := tick_no h hc hm t0 t1 ho
    unfold tickL
    rw [ho]
    exact this
  | some i =>
    obtain ⟨x, hx, -⟩ := onG_some ho
    obtain ⟨T, C, rfl, -⟩ := h.rows (by have := (List.getElem?_eq_some_iff.1 hx).1; omega)
    have := tick_yes h hc hm t0 t1 ho hx (hv i x hx).1 (hv i x hx).2
    unfold tickL
    rw [ho]
    exact this
end
end Go.Proofs.YtnmlapiekfkbaaaGreatDoor
namespace Go.Proofs.YtnmlapiekfkbaaaGreatDoor
open Go.RowKit
set_option linter.unusedVariables false
set_option linter.unusedSimpArgs false
/-- the tasks of two runs differ in where they run alone -/
def SameV (l l' : List Tk) : Prop := l'.length = l.length ∧ ∀ (i : Nat) (x : Tk), l'[i]? = some x → ∃ y, l[i]? = some y ∧ y.t = x.t ∧ y.v = x.v ∧ y.rd = x.rd
theorem SameV.refl (l : List Tk) : SameV l l := ⟨rfl, fun i x h => ⟨x, h, rfl, rfl, rfl⟩⟩
theorem SameV.trans {a b c : List Tk} (h : SameV a b) (k : SameV b c) : SameV a c := ⟨k.1.trans h.1, fun i x hx => by
  obtain ⟨y, hy, e1, e2, e3⟩ := k.2 i x hx
  obtain ⟨z, hz, f1, f2, f3⟩ := h.2 i y hy
  exact ⟨z, hz, f1.trans e1, f2.trans e2, f3.trans e3⟩⟩
theorem SameV.set {l : List Tk} {i : Nat} {x : Tk} (hx : l[i]? = some x) (c : Int) : SameV l (l.set i { x with cpu := c }) := ⟨by simp, fun j y hy => by
  rw [List.getElem?_set] at hy
  split at hy
  · rename_i e
    subst e
    split at hy
    · injection hy with hy
      subst hy
      exact ⟨x, hx, rfl, rfl, rfl⟩
    · cases hy
  · exact ⟨y, hy, rfl, rfl, rfl⟩⟩
theorem fill1_same (l : List Tk) (c : Int) : SameV l (fill1 l c) := by
  cases h1 : onG l c with
  | some i => rw [fill1_busy h1]; exact SameV.refl _
  | none =>
    cases h2 : bestG l l.length with
    | none => rw [fill1_none h1 h2]; exact SameV.refl _
    | some b =>
      have hb := (bestG_lt l _ b h2).2
      rw [fill1_some h1 h2 (List.getElem?_eq_getElem hb)]
      exact SameV.set (List.getElem?_eq_getElem hb) c
theorem fillG_same (l : List Tk) : ∀ m, SameV l (fillG l m)
  | 0 => SameV.refl _
  | m + 1 => (fillG_same l m).trans (fill1_same _ _)
/-- virtual times lie between 0 and b -/
def VOk (b : Int) (l : List Tk) : Prop := ∀ (i : Nat) (x : Tk), l[i]? = some x → 0 ≤ x.v ∧ x.v ≤ b
theorem VOk.same {b : Int} {l l' : List Tk} (h : VOk b l) (hs : SameV l l') : VOk b l' := fun i x hx => by
  obtain ⟨y, hy, -, e, -⟩ := hs.2 i x hx
  rw [← e]
  exact h i y hy
theorem VOk.mono {b b' : Int} {l : List Tk} (h : VOk b l) (hb : b ≤ b') : VOk b' l := fun i x hx => ⟨(h i x hx).1, by have := (h i x hx).2; omega⟩
theorem VOk.tick {b : Int} {l : List Tk} (h : VOk b l) (c : Int) (m : Nat) : VOk (b + 104857) (tickL l c m) := by
  unfold tickL
  cases ho : onG l c with
  | none => exact (h.mono (by omega)).same (fillG_same l m)
  | some i =>
    refine VOk.same ?_ (fillG_same _ m)
    obtain ⟨x, hx, -⟩ := onG_some ho
    unfold stepAt
    rw [hx]
    intro j y hy
    have hy : (l.set i { x with v := x.v + 104857, cpu := -1 })[j]? = some y := hy
    rw [List.getElem?_set] at hy
    split at hy
    · split at hy
      · injection hy with hy
        subst hy
        have := h i x hx
        exact ⟨by show 0 ≤ x.v + 104857; omega, by show x.v + 104857 ≤ b + 104857; omega⟩
      · cases hy
    · have := h j y hy
      omega
/-- all processors tick, from the first on -/
def tickAll (l : List Tk) (m : Nat) : Nat → List Tk
  | 0 => l
  | c + 1 => tickL (tickAll l m c) c m
theorem VOk.all {b : Int} {l : List Tk} (h : VOk b l) (m : Nat) : ∀ c : Nat, VOk (b + c * 104857) (tickAll l m c)
  | 0 => h.mono (by omega)
  | c + 1 => ((h.all m c).tick c m).mono (by push_cast; omega)
theorem tickL_len (l : List Tk) (c : Int) (m : Nat) : (tickL l c m).length = l.length := by
  unfold tickL
  cases ho : onG l c with
  | none => exact fillG_len l m
  | some i =>
    show (fillG (stepAt l i) m).length = l.length
    rw [fillG_len]
    unfold stepAt
    cases l[i]? <;> simp
end Go.Proofs.YtnmlapiekfkbaaaGreatDoor
namespace Go.Proofs.YtnmlapiekfkbaaaGreatDoor
open Go.RowKit
set_option linter.unusedVariables false
set_option linter.unusedSimpArgs false
/-- the tasks at first, and n more -/
def entered (nc : Nat) : Nat → List Tk
  | 0 => [⟨1, 0, true, 0⟩]
  | n + 1 => enterL (entered nc n) ((n + 2 : Nat) : Int) nc
def ticked (nc n : Nat) : Nat → List Tk
  | 0 => entered nc n
  | r + 1 => tickAll (ticked nc n r) nc nc
/-- a processor's step: who has it has one more -/
def stepN (l : List Tk) (m : Nat → Nat) (c : Nat) : Nat → Nat := match onG l c with
  | none => m
  | some i => match l[i]? with
    | none => m
    | some x => fun p => if (p : Int) = x.t then m p + 1 else m p
def stepsN (l : List Tk) (m : Nat → Nat) : Nat → Nat → Nat
  | 0 => m
  | c + 1 => stepN l (stepsN l m c) c
def had (nc n : Nat) : Nat → Nat → Nat
  | 0 => fun _ => 0
  | r + 1 => stepsN (ticked nc n r) (had nc n r) nc
/-- who has a processor is one of the processes -/
def onOk (l : List Tk) (N c : Nat) : Bool := match onG l c with
  | none => true
  | some i => match l[i]? with
    | none => true
    | some x => decide (1 ≤ x.t) && decide (x.t ≤ (N : Int))
theorem law_go : ∀ nc, 1 ≤ nc → nc ≤ 4 → ∀ n, n < 6 → ∀ p, 1 ≤ p → p ≤ n + 1 → 1 ≤ had nc n (4 * (n + 1)) p ∧ had nc n (4 * (n + 1)) p < 1000 := by
  have h : ∀ nc, nc < 5 → 1 ≤ nc → ∀ n, n < 6 → ∀ p, p < n + 2 → 1 ≤ p → (decide (1 ≤ had nc n (4 * (n + 1)) p) && decide (had nc n (4 * (n + 1)) p < 1000)) = true := by decide +kernel
  intro nc h1 h4 n hn p p1 p2
  have := h nc (by omega) h1 n hn p (by omega) p1
  simpa only [Bool.and_eq_true, decide_eq_true_eq] using this
theorem on_ok {nc n r c : Nat} (h1 : 1 ≤ nc) (h4 : nc ≤ 4) (hn : n < 6) (hr : r < 4 * (n + 1)) (hc : c < nc) {i : Nat} {x : Tk} (ho : onG (ticked nc n r) c = some i) (hx : (ticked nc n r)[i]? = some x) : ∃ p : Nat, x.t = p ∧ 1 ≤ p ∧ p ≤ n + 1 := by
  have h : ∀ nc, nc < 5 → 1 ≤ nc → ∀ n, n < 6 → ∀ r, r < 4 * (n + 1) → ∀ c, c < nc → onOk (ticked nc n r) (n + 1) c = true := by decide +kernel
  have := h nc (by omega) h1 n hn r hr c hc
  unfold onOk at this
  rw [ho] at this
  simp only [hx] at this
  simp only [Bool.and_eq_true, decide_eq_true_eq] at this
  exact ⟨x.t.toNat, by omega, by omega, by omega⟩
theorem entered_ok {nc n : Nat} (h1 : 1 ≤ nc) (h4 : nc ≤ 4) (hn : n < 6) : (entered nc n).length = n + 1 ∧ VOk 0 (entered nc n) ∧ idG (entered nc n) ((n + 2 : Nat) : Int) = none := by
  have h : ∀ nc, nc < 5 → 1 ≤ nc → ∀ n, n < 6 → (entered nc n).length = n + 1 ∧ (entered nc n).all (fun x => x.v == 0) = true ∧ idG (entered nc n) ((n + 2 : Nat) : Int) = none := by decide +kernel
  obtain ⟨h1, h2, h3⟩ := h nc (by omega) h1 n hn
  refine ⟨h1, fun i x hx => ?_, h3⟩
  have := List.all_eq_true.1 h2 x (List.mem_of_getElem? hx)
  simp only [beq_iff_eq] at this
  exact ⟨by omega, by omega⟩
theorem ticked_ok {nc n : Nat} (h1 : 1 ≤ nc) (h4 : nc ≤ 4) (hn : n < 6) : ∀ r : Nat, VOk ((r : Int) * 419428) (ticked nc n r)
  | 0 => by have := (entered_ok h1 h4 hn).2.1; exact this.mono (by omega)
  | r + 1 => by
    have h := (ticked_ok h1 h4 hn r).all nc nc
    exact h.mono (by
      have : (nc : Int) * 104857 ≤ 4 * 104857 := Int.mul_le_mul_of_nonneg_right (by omega) (by decide)
      push_cast
      omega)
end Go.Proofs.YtnmlapiekfkbaaaGreatDoor
