/- The walks of package spread at any run: Block, Wake. The plain law of ringtop.TopSleeps: who sleeps is on no processor, wakes, and gets one. No walk here. The walks of wrap.Far, and of wheel.Step at a wheel without timers. -/
import Derived.Test.YtnmlapiekfkbaaaGreatDoorTpE
import Derived.BigQuiet
import Derived.Test.YtnmlapiekfkbaaaGreatDoorKerG
namespace Go.Proofs.YtnmlapiekfkbaaaGreatDoor
open Go.RowKit
set_option linter.unusedVariables false
set_option linter.unusedSimpArgs false
section
variable {w w' : World} {R cap T i : Nat} {ad : Option Addr} {cpus ticks pin : Int} {l : List Tk} {x : Tk}
set_option maxRecDepth 100000 in
set_option maxHeartbeats 1000000 in
/-- a task that is ready waits -/
theorem blockG_is {m : Nat} (h : RunG w R (some ⟨T, 0, none⟩) cap m ticks (onePin m) l) (hm : m ≤ 4) {t : Int} (hi : idG l t = some i) (hx : l[i]? = some x) (hr : x.rd = true) : Calls Tryz.prog 223 #[.pointer (some ⟨R, 0, none⟩), .int .i64 t] w fun e w' => e = .returned (.int .i64 0) ∧ RunG w' R (some ⟨T, 0, none⟩) cap m ticks (onePin m) (fillG (l.set i { x with rd := false, cpu := -1 }) m) ∧ Upd (rS R (some ⟨T, 0, none⟩)) w w' := by
  have hil := (List.getElem?_eq_some_iff.1 hx).1
  obtain ⟨T', C, e, hrr⟩ := h.rows (by omega)
  injection e with e; injection e with e; subst e
  have a12 := (hrr.cell (i * 15 + 12)).trans (hrr.at hx).c12
  have f12 := hrr.row.fz (i * 15 + 12)
  have a14 := (hrr.cell (i * 15 + 14)).trans (hrr.at hx).c14
  have f14 := hrr.row.fz (i * 15 + 14)
  rw [hr] at a12
  have HFI := Lib.hid (find_is h t)
  rw [hi, ptrG_some] at HFI
  have hx2 : (l.set i { x with rd := false })[i]? = some { x with rd := false } := by rw [List.getElem?_set]; simp [hil]
  have h2 := (h.setRd hx false).setCpu hx2 (-1)
  rw [List.set_set] at h2
  have HF := Lib.hid (fillG_is h2 (onePin_ok (by omega)) (by omega))
  have HU : Hid (Upd (rS R (some ⟨T, 0, none⟩)) w ((w.setCell ⟨T, i * 15 + 12, none⟩ (.bool false)).setCell ⟨T, i * 15 + 14, none⟩ (.int .i64 (-1)))) := Lib.hid ((Upd.set w _ (.inr ⟨_, rfl, rfl⟩)).trans (Upd.set _ _ (.inr ⟨_, rfl, rfl⟩)))
  clear h hrr hx hx2 h2 hi hil
  go_enter Tryz.func223, Tryz.ntmps223
  go_wp2_with (first | (go_at_call 98; refine HFI.out.mono ?_; rintro e1 w1 ⟨rfl, rfl⟩) | (go_at_call 72; refine HF.out.mono ?_; rintro e2 w2 ⟨rfl, hr2, hu2⟩; have HR2 := Lib.hid hr2; have HU2 := Lib.hid (HU.out.trans hu2); clear hr2 hu2))
  go_ret
  exact ⟨rfl, HR2.out, HU2.out⟩
/-- the virtual time of who wakes -/
def maxO (v : Int) : Option Int → Int
  | none => v
  | some n => if v < n then n else v
def wokeV (l : List Tk) (x : Tk) : Int := maxO x.v (lowG l l.length)
set_option maxRecDepth 100000 in
set_option maxHeartbeats 2000000 in
/-- a task that waits is ready again -/
theorem wakeG_is {m : Nat} (h : RunG w R (some ⟨T, 0, none⟩) cap m ticks (onePin m) l) (h1 : 1 ≤ m) (hm : m ≤ 4) {t : Int} (hi : idG l t = some i) (hx : l[i]? = some x) (hr : x.rd = false) : Calls Tryz.prog 68 #[.pointer (some ⟨R, 0, none⟩), .int .i64 t] w fun e w' => e = .returned (.int .i64 0) ∧ RunG w' R (some ⟨T, 0, none⟩) cap m ticks (onePin m) (fillG (l.set i { x with v := wokeV l x, rd := true, cpu := -1 }) m) ∧ Upd (rS R (some ⟨T, 0, none⟩)) w w' := by
  have hil := (List.getElem?_eq_some_iff.1 hx).1
  obtain ⟨T', C, e, hrr⟩ := h.rows (by omega)
  injection e with e; injection e with e; subst e
  have a12 := (hrr.cell (i * 15 + 12)).trans (hrr.at hx).c12
  rw [hr] at a12
  have HFI := Lib.hid (find_is h t)
  rw [hi, ptrG_some] at HFI
  have HLO := Lib.hid (lowG_is h)
  have HH := Lib.hid h
  have HX := Lib.hid hx
  have HM := Lib.hid (And.intro h1 hm)
  have HIL := Lib.hid hil
  obtain ⟨o, ho⟩ : ∃ o, o = lowG l l.length := ⟨_, rfl⟩
  have HV : Hid (wokeV l x = maxO x.v o) := Lib.hid (by rw [ho]; rfl)
  rw [← ho] at HLO
  clear h hrr hx hi hil ho hr h1 hm
  go_enter Tryz.func68, Tryz.ntmps68
  go_upto_region 7 with (first | (go_at_call 98; refine HFI.out.mono ?_; rintro e1 w1 ⟨rfl, rfl⟩) | (go_at_call 148; refine HLO.out.mono ?_; rintro e2 w2 ⟨rfl, hb2⟩; have HH2 := Lib.hid (HH.out.keep hb2); have HU2 := Lib.hid (Upd.below (S := rS R (some ⟨T, 0, none⟩)) hb2); clear hb2))
  clear HFI HLO HH a12
  obtain ⟨T', C, e, hrr⟩ := HH2.out.rows (by have := HIL.out; omega)
  injection e with e; injection e with e; subst e
  have a1 := (hrr.cell (i * 15 + 1)).trans (hrr.at HX.out).c1
  have a9 := (hrr.cell (i * 15 + 9)).trans (hrr.at HX.out).c9
  have f9 := hrr.row.fz (i * 15 + 9)
  cases o with
  | none =>
    obtain ⟨l1, hl1⟩ : ∃ l1, l1 = l := ⟨_, rfl⟩
    obtain ⟨y, hy⟩ : ∃ y, y = x := ⟨_, rfl⟩
    have HR1 : Hid (RunG w2 R (some ⟨T, 0, none⟩) cap m ticks (onePin m) l1) := Lib.hid (by rw [hl1]; exact HH2.out)
    have HU1 := HU2
    have HX1 : Hid (l1[i]? = some y) := Lib.hid (by rw [hl1, hy]; exact HX.out)
    have HL1 : Hid (l1.set i { y with rd := true, cpu := -1 } = l.set i { x with v := wokeV l x, rd := true, cpu := -1 }) := Lib.hid (by rw [HV.out, hl1, hy]; rfl)
    clear a1 a9 f9 hrr hl1 hy HH2 HU2
    unfold lowN lowB
    go_upto_region 9 with fail
    have HTI := Lib.hid (time_is HR1.out HM.out.1 HM.out.2)
    go_upto_region 10 with (go_at_call 70; refine HTI.out.mono ?_; rintro e3 w3 ⟨q, rfl, hb3⟩; have HR3 := Lib.hid (HR1.out.keep hb3); have HU3 := Lib.hid (HU1.out.trans (Upd.below hb3)); clear hb3)
    clear HTI
    obtain ⟨T', C, e, hrr⟩ := HR3.out.rows (by have := (List.getElem?_eq_some_iff.1 HX1.out).1; omega)
    injection e with e; injection e with e; subst e
    have b1 := (hrr.cell (i * 15 + 1)).trans (hrr.at HX1.out).c1
    have HX4 : Hid ((l1.set i { y with rd := true })[i]? = some { y with rd := true }) := Lib.hid (by rw [List.getElem?_set]; simp [(List.getElem?_eq_some_iff.1 HX1.out).1])
    clear hrr
    go_quiet (fail)
    generalize hnq : w3.drewN _ = w4 at *
    have HB4 : Hid (Below w3.heap.size w3 w4) := Lib.hid (by rw [← hnq]; exact below_drewN (Below.refl _ _) _)
    have hr4 := HR3.out.keep HB4.out
    have HU4 := Lib.hid ((HU3.out.trans (Upd.below HB4.out)).trans (Upd.set w4 (b := T) (i := i * 15 + 12) (.bool true) (.inr ⟨_, rfl, rfl⟩)))
    obtain ⟨T', C, e, hrr⟩ := hr4.rows (by have := (List.getElem?_eq_some_iff.1 HX1.out).1; omega)
    injection e with e; injection e with e; subst e
    have c12 := (hrr.cell (i * 15 + 12)).trans (hrr.at HX1.out).c12
    have g12 := hrr.row.fz (i * 15 + 12)
    have HWT := Lib.hid (waitG_is (hr4.setRd HX1.out true) HX4.out)
    clear hr4 hrr b1 hnq HB4 HR3 HU3 HR1 HU1
    go_wp2_with (first | (go_at_call 71; refine HWT.out.mono ?_; rintro e5 w5 ⟨rfl, hr5, hu5⟩; have HU5 := Lib.hid (HU4.out.trans hu5); have HF := Lib.hid (fillG_is hr5 (onePin_ok (by have := HM.out; omega)) (by have := HM.out; omega)); clear hr5 hu5) | (go_at_call 72; refine HF.out.mono ?_; rintro e6 w6 ⟨rfl, hr6, hu6⟩; have HR6 := Lib.hid hr6; have HU6 := Lib.hid (HU5.out.trans hu6); clear hr6 hu6))
    go_ret
    refine ⟨rfl, ?_, HU6.out⟩
    have h6 := HR6.out
    rw [List.set_set, HL1.out] at h6
    exact h6
  | some n =>
    unfold lowN lowB
    go_upto_region 9 with fail
    obtain ⟨vn, hvn⟩ : ∃ vn, vn = (if x.v < n then n else x.v) := ⟨_, rfl⟩
    rw [← hvn]
    obtain ⟨l1, hl1⟩ : ∃ l1, l1 = l.set i { x with v := vn } := ⟨_, rfl⟩
    obtain ⟨y, hy⟩ : ∃ y : Tk, y = { x with v := vn } := ⟨_, rfl⟩
    have HR1 : Hid (RunG (w2.setCell ⟨T, i * 15 + 9, none⟩ (.int .i64 vn)) R (some ⟨T, 0, none⟩) cap m ticks (onePin m) l1) := Lib.hid (by rw [hl1]; exact HH2.out.setV HX.out _)
    have HU1 : Hid (Upd (rS R (some ⟨T, 0, none⟩)) w (w2.setCell ⟨T, i * 15 + 9, none⟩ (.int .i64 vn))) := Lib.hid (HU2.out.trans (Upd.set _ _ (.inr ⟨_, rfl, rfl⟩)))
    have HX1 : Hid (l1[i]? = some y) := Lib.hid (by rw [hl1, hy, List.getElem?_set]; simp [HIL.out])
    have HL1 : Hid (l1.set i { y with rd := true, cpu := -1 } = l.set i { x with v := wokeV l x, rd := true, cpu := -1 }) := Lib.hid (by rw [HV.out, hl1, hy, List.set_set, hvn]; rfl)
    clear a1 a9 f9 hrr hl1 hy HH2 HU2 hvn
    generalize w2.setCell ⟨T, i * 15 + 9, none⟩ (.int .i64 vn) = w5 at *
    have HTI := Lib.hid (time_is HR1.out HM.out.1 HM.out.2)
    go_upto_region 10 with (go_at_call 70; refine HTI.out.mono ?_; rintro e3 w3 ⟨q, rfl, hb3⟩; have HR3 := Lib.hid (HR1.out.keep hb3); have HU3 := Lib.hid (HU1.out.trans (Upd.below hb3)); clear hb3)
    clear HTI
    obtain ⟨T', C, e, hrr⟩ := HR3.out.rows (by have := (List.getElem?_eq_some_iff.1 HX1.out).1; omega)
    injection e with e; injection e with e; subst e
    have b1 := (hrr.cell (i * 15 + 1)).trans (hrr.at HX1.out).c1
    have HX4 : Hid ((l1.set i { y with rd := true })[i]? = some { y with rd := true }) := Lib.hid (by rw [List.getElem?_set]; simp [(List.getElem?_eq_some_iff.1 HX1.out).1])
    clear hrr
    go_quiet (fail)
    generalize hnq : w3.drewN _ = w4 at *
    have HB4 : Hid (Below w3.heap.size w3 w4) := Lib.hid (by rw [← hnq]; exact below_drewN (Below.refl _ _) _)
    have hr4 := HR3.out.keep HB4.out
    have HU4 := Lib.hid ((HU3.out.trans (Upd.below HB4.out)).trans (Upd.set w4 (b := T) (i := i * 15 + 12) (.bool true) (.inr ⟨_, rfl, rfl⟩)))
    obtain ⟨T', C, e, hrr⟩ := hr4.rows (by have := (List.getElem?_eq_some_iff.1 HX1.out).1; omega)
    injection e with e; injection e with e; subst e
    have c12 := (hrr.cell (i * 15 + 12)).trans (hrr.at HX1.out).c12
    have g12 := hrr.row.fz (i * 15 + 12)
    have HWT := Lib.hid (waitG_is (hr4.setRd HX1.out true) HX4.out)
    clear hr4 hrr b1 hnq HB4 HR3 HU3 HR1 HU1
    go_wp2_with (first | (go_at_call 71; refine HWT.out.mono ?_; rintro e5 w5 ⟨rfl, hr5, hu5⟩; have HU5 := Lib.hid (HU4.out.trans hu5); have HF := Lib.hid (fillG_is hr5 (onePin_ok (by have := HM.out; omega)) (by have := HM.out; omega)); clear hr5 hu5) | (go_at_call 72; refine HF.out.mono ?_; rintro e6 w6 ⟨rfl, hr6, hu6⟩; have HR6 := Lib.hid hr6; have HU6 := Lib.hid (HU5.out.trans hu6); clear hr6 hu6))
    go_ret
    refine ⟨rfl, ?_, HU6.out⟩
    have h6 := HR6.out
    rw [List.set_set, HL1.out] at h6
    exact h6
end
end Go.Proofs.YtnmlapiekfkbaaaGreatDoor
namespace Go.Proofs.YtnmlapiekfkbaaaGreatDoor
open Go.RowKit
set_option linter.unusedVariables false
set_option linter.unusedSimpArgs false
/-- whoever has a processor is one of the processes, and times are small -/
def okL (l : List Tk) (nc n : Nat) : Bool := (List.range nc).all (fun c => onOk l (n + 1) c) && l.all (fun x => decide (0 ≤ x.v) && decide (x.v ≤ 1000000000))
def onW (l : List Tk) (nc : Nat) (who : Int) : Bool := (List.range nc).any (fun c => onT l c == who)
/-- he has a processor at some time -/
def fnd (nc n : Nat) (who : Int) : Nat → List Tk → Bool
  | 0, _ => false
  | q + 1, l => okL l nc n && (onW l nc who || fnd nc n who q (tickAll l nc nc))
/-- he sleeps, or is awake -/
def setTl (l : List Tk) (nc : Nat) (who : Int) (f : Tk → Tk) : List Tk := match idG l who with
  | none => l
  | some i => match l[i]? with
    | none => l
    | some x => fillG (l.set i (f x)) nc
def rdL (l : List Tk) (who : Int) : Option Bool := match idG l who with
  | none => none
  | some i => match l[i]? with
    | none => none
    | some x => some x.rd
def wokeL (l : List Tk) (nc : Nat) (who : Int) : List Tk := setTl l nc who (fun x => { x with v := wokeV l x, rd := true, cpu := -1 })
def sleptL (l : List Tk) (nc : Nat) (who : Int) : List Tk := setTl l nc who (fun x => { x with rd := false, cpu := -1 })
/-- while he sleeps, and if he woke at the next tick -/
def slp (nc n : Nat) (who : Int) : Nat → List Tk → Bool
  | 0, _ => true
  | q + 1, l => okL l nc n && !onW l nc who && (rdL l who == some false) && okL (wokeL l nc who) nc n && fnd nc n who (4 * (n + 1)) (tickAll (wokeL l nc who) nc nc) && slp nc n who q (tickAll l nc nc)
def lawB (nc n who : Nat) : Bool := rdL (entered nc n) (who : Int) == some true && slp nc n (who : Int) 40 (sleptL (entered nc n) nc (who : Int))
def lawA (nc : Nat) : Bool := (List.range 5).all fun b => (List.range (b + 1)).all fun c => lawB nc (b + 1) (c + 2)
theorem law1 : lawA 1 = true := by decide +kernel
theorem law2 : lawA 2 = true := by decide +kernel
theorem law3 : lawA 3 = true := by decide +kernel
theorem law4 : lawA 4 = true := by decide +kernel
theorem law_sleep {nc n who : Nat} (h1 : 1 ≤ nc) (h4 : nc ≤ 4) (n1 : 1 ≤ n) (n5 : n ≤ 5) (w2 : 2 ≤ who) (w6 : who ≤ n + 1) : lawB nc n who = true := by
  have h : lawA nc = true := by
    have : nc = 1 ∨ nc = 2 ∨ nc = 3 ∨ nc = 4 := by omega
    rcases this with rfl | rfl | rfl | rfl
    · exact law1
    · exact law2
    · exact law3
    · exact law4
  have := List.all_eq_true.1 (List.all_eq_true.1 h (n - 1) (List.mem_range.2 (by omega))) (who - 2) (List.mem_range.2 (by omega))
  rw [show n - 1 + 1 = n by omega, show who - 2 + 2 = who by omega] at this
  exact this
theorem okL_on {l : List Tk} {nc n c i : Nat} {x : Tk} (h : okL l nc n = true) (hc : c < nc) (ho : onG l c = some i) (hx : l[i]? = some x) : ∃ p : Nat, x.t = p ∧ 1 ≤ p ∧ p ≤ n + 1 := by
  unfold okL at h
  rw [Bool.and_eq_true] at h
  have := List.all_eq_true.1 h.1 c (List.mem_range.2 hc)
  unfold onOk at this
  rw [ho] at this
  simp only [hx] at this
  simp only [Bool.and_eq_true, decide_eq_true_eq] at this
  exact ⟨x.t.toNat, by omega, by omega, by omega⟩
theorem okL_v {l : List Tk} {nc n : Nat} (h : okL l nc n = true) : VOk 1000000000 l := fun i x hx => by
  unfold okL at h
  rw [Bool.and_eq_true] at h
  have := List.all_eq_true.1 h.2 x (List.mem_of_getElem? hx)
  simpa only [Bool.and_eq_true, decide_eq_true_eq] using this
theorem onW_no {l : List Tk} {nc c : Nat} {who : Int} (h : onW l nc who = false) (hc : c < nc) : onT l c ≠ who := fun e => by
  unfold onW at h
  rw [List.any_eq_false] at h
  exact h c (List.mem_range.2 hc) (by simpa using e)
theorem rdL_some {l : List Tk} {who : Int} {b : Bool} (h : rdL l who = some b) : ∃ i x, idG l who = some i ∧ l[i]? = some x ∧ x.rd = b := by
  unfold rdL at h
  cases hi : idG l who with
  | none => rw [hi] at h; cases h
  | some i =>
    rw [hi] at h
    simp only at h
    cases hx : l[i]? with
    | none => rw [hx] at h; cases h
    | some x =>
      rw [hx] at h
      simp only at h
      injection h with h
      exact ⟨i, x, rfl, hx, h⟩
theorem setTl_at {l : List Tk} {nc i : Nat} {who : Int} {x : Tk} {f : Tk → Tk} (hi : idG l who = some i) (hx : l[i]? = some x) : setTl l nc who f = fillG (l.set i (f x)) nc := by
  unfold setTl
  rw [hi]
  simp only [hx]
end Go.Proofs.YtnmlapiekfkbaaaGreatDoor
namespace Go.Proofs.YtnmlapiekfkbaaaGreatDoor
open Go.RowKit
set_option linter.unusedVariables false
set_option linter.unusedSimpArgs false
set_option maxRecDepth 100000 in
theorem far_is {a b : Int} (a0 : 0 ≤ a) (a1 : a < 1000000000) (b0 : 0 ≤ b) (b1 : b < 1000000000) (w : World) : Calls Tryz.prog 66 #[.int .u32 a, .int .u32 b] w fun e w' => e = .returned (.int .i64 (b - a)) ∧ w = w' := by
  have e1 : wrap64 (wrap32 ((b - a) % 4294967296)) = b - a := by unfold wrap64 wrap32; omega
  go_enter Tryz.func66, Tryz.ntmps66
  go_wp2_with fail
  go_ret
  refine ⟨?_, rfl⟩
  show Ending.returned (.int .i64 (wrap64 (wrap32 ((b - a) % 4294967296)))) = _
  rw [e1]
set_option maxRecDepth 100000 in
theorem clone0_is (w : World) : Calls Tryz.prog 67 #[.slice none 0 0] w fun e w' => e = .returned (.slice none 0 0) ∧ w = w' := by
  have he : (binOp .eql 148 (.slice none 0 0) (.slice none 0 0)).run Tryz.prog w = .ok (.bool true) w := by kernel_rfl
  go_enter Tryz.func67, Tryz.ntmps67
  go_wp2_with fail
  go_ret
  exact ⟨rfl, rfl⟩
set_option maxRecDepth 100000 in
set_option maxHeartbeats 400000 in
theorem wstep0_is {w : World} {Wh : Nat} {a b : Int} (h : Row w Wh 150 #[.int .u32 a, .slice none 0 0]) (a0 : 0 ≤ a) (ab : a ≤ b) (b1 : b < 1000000000) : Calls Tryz.prog 25 #[.pointer (some ⟨Wh, 0, none⟩), .int .u32 b] w fun e w' => e = .returned (.tuple #[.slice none 0 0, .int .i64 0]) ∧ Row w' Wh 150 #[.int .u32 b, .slice none 0 0] ∧ Upd (fun j => j = Wh) w w' := by
  have c0 := h.cell 0
  have c1 := h.cell 1
  have fz := h.fz
  have HF := Lib.hid (far_is a0 (by omega) (by omega : 0 ≤ b) b1 w)
  have i0 : ¬ b - a < 0 := by omega
  have HH := Lib.hid h
  clear h
  go_enter Tryz.func25, Tryz.ntmps25
  go_upto_region 6 with (go_at_call 66; refine HF.out.mono ?_; rintro e1 w1 ⟨rfl, rfl⟩)
  refine wp_loop_rounds 1 ?_
  rw [rounds_succ]
  have i1 : decide ((0 : Int) < 0) = false := by decide
  go_upto_region 6 with fail
  go_quiet (fail)
  have HR := Lib.hid (HH.out.keep (below_drewN (Below.refl _ _) nq))
  have HU : Hid (Upd (fun j => j = Wh) w (w.drewN nq)) := Lib.hid (Upd.drewN _ _)
  clear c0 c1 fz HF HH
  generalize w.drewN nq = wd at *
  have c0 := HR.out.cell 0
  have c1 := HR.out.cell 1
  have fz := HR.out.fz
  have HC := Lib.hid (clone0_is wd)
  go_wp2_with (go_at_call 67; refine HC.out.mono ?_; rintro e2 w2 ⟨rfl, rfl⟩)
  go_ret2
  have e1 := HR.out.setCell 1 (.slice none 0 0)
  have r1 := HR.out.setRow ((#[.int .u32 a, .slice none 0 0] : Array Value).setIfInBounds 1 (.slice none 0 0))
  have e2 := r1.setCell 0 (.int .u32 b)
  refine ⟨rfl, ?_, (HU.out.trans (Upd.set _ _ rfl)).trans (Upd.set _ _ rfl)⟩
  rw [e1, e2]
  exact r1.setRow _
end Go.Proofs.YtnmlapiekfkbaaaGreatDoor
