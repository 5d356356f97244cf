/- Walks of parts of a process's end and of its birth: open.Drop at no descriptors, wheel.Out at no timers, sig.Child, Send, Next. The walk of spread's Leave at any run. Walks of the kernel's process at wait, and at map. -/
import Derived.Test.YtnbhohaphmilmaaGreatDoorProcExit
import Derived.Test.YtnbhohaphmilmaaGreatDoorAskB
import Derived.Test.YtnbhohaphmilmaaGreatDoorBegin
import Derived.Test.YtnbhohaphmilmaaGreatDoorProcPlain
import Derived.Test.YtnbhohaphmilmaaGreatDoorKerG
import Derived.Test.YtnbhohaphmilmaaGreatDoorSpG
namespace Go.Proofs.YtnbhohaphmilmaaGreatDoor.OpenLaw
open Go.RowKit
set_option linter.unusedVariables false
set_option linter.unusedSimpArgs false
def z5 : Array Value := #[.int .i64 0, .int .i64 0, .int .i64 0, .bool false, .int .i64 0]
set_option maxRecDepth 100000 in
set_option maxHeartbeats 400000 in
theorem close_none {w : World} {b p j : Nat} {fs : Nat → F} {fd : Nat → Nat} (h : OTab w b fs fd) (h1 : 1 ≤ p) (h2 : p ≤ 16) (hj : j < 8) (hx : fd (p * 8 + j) = 0) : Calls Tryz.prog 158 #[.pointer (some ⟨b, 0, none⟩), .int .i64 p, .int .i64 j] w fun e w' => e = .returned (.tuple #[.agg z5, .bool false, .int .i64 4]) ∧ Below w.heap.size w w' := by
  have HF := Lib.hid (find_none (h.alloc (.cells z5 194)) h1 h2 hj hx)
  have HH := Lib.hid (h.alloc (.cells z5 194))
  have HB := Lib.hid (Go.Joins.below_alloc1 w (.cells z5 194))
  have HR := Lib.hid (has_new w [.int .i64 0, .int .i64 0, .int .i64 0, .bool false, .int .i64 0] 194)
  have HZ := Lib.hid (fun i => frozen_new w z5 194 i)
  clear hx h h1 h2 hj
  go_enter Tryz.func158, Tryz.ntmps158
  go_wp2_with fail
  refine HF.out.mono ?_
  rintro e w1 ⟨rfl, hb1⟩
  have R := HR.out.keep hb1
  have r0 := R.2 0 _ rfl
  have r1 := R.2 1 _ rfl
  have r2 := R.2 2 _ rfl
  have r3 := R.2 3 _ rfl
  have r4 := R.2 4 _ rfl
  have z : ∀ i, w1.frozen? ⟨w.heap.size, i, none⟩ = false := fun i => (hb1.frozen (p := ⟨w.heap.size, i, none⟩) (by simp)).trans (HZ.out i)
  have HK := Lib.hid (Below.trans HB.out (hb1.mono (by simp)))
  clear R hb1
  go_wp2
  refine bodyPost_ret (v := .tuple #[.agg z5, .bool false, .int .i64 4]) (by rw [results_cell3 rfl]; go_simp; (try rfl)) rfl ⟨rfl, ?_⟩
  exact ((((HK.out.setCell (p := ⟨_, _, none⟩) (Nat.le_refl _) _).setCell (p := ⟨_, _, none⟩) (Nat.le_refl _) _).setCell (p := ⟨_, _, none⟩) (Nat.le_refl _) _).setCell (p := ⟨_, _, none⟩) (Nat.le_refl _) _).setCell (p := ⟨_, _, none⟩) (Nat.le_refl _) _
set_option maxRecDepth 100000 in
set_option maxHeartbeats 400000 in
theorem dropE_is {w : World} {b p : Nat} {fs : Nat → F} {fd : Nat → Nat} (h : OTab w b fs fd) (h1 : 1 ≤ p) (h2 : p ≤ 16) (hz : ∀ j, j < 8 → fd (p * 8 + j) = 0) : Calls Tryz.prog 152 #[.pointer (some ⟨b, 0, none⟩), .int .i64 p] w fun e w' => e = .returned (.tuple #[.slice none 0 0, .int .i64 0]) ∧ Below w.heap.size w w' := by
  have HO := Lib.hid (owner_is h1 h2 w)
  have HH := Lib.hid h
  have HC := Lib.hid (fun (w0 : World) (t : OTab w0 b fs fd) (j : Nat) (hj : j < 8) => close_none t h1 h2 hj (hz j hj))
  clear h hz
  go_enter Tryz.func152, Tryz.ntmps152
  go_upto_region 4 with (go_at_call 225; refine HO.out.mono ?_; rintro e w1 ⟨rfl, rfl⟩)
  go_wp2_with fail
  go_loopw [6, 14] (fun lv iv wr => ∃ k : Nat, k ≤ 8 ∧ iv = .int .i64 k ∧ lv = .slice none 0 0 ∧ Hid (Below w.heap.size w wr)) (fun _ iv _ => 8 - (intOf iv).toNat)
  case atStart => exact ⟨0, by omega, rfl, rfl, Lib.hid (Below.refl _ _)⟩
  case round =>
    obtain ⟨k, hk, rfl, rfl, HB⟩ := hrel
    by_cases hlt : k < 8
    · have hki : (k : Int) < 8 := by omega
      have HCL := Lib.hid (HC.out wr (HH.out.keep HB.out) k hlt)
      clear hlt
      go_wp2_with (go_at_call 158; refine HCL.out.mono ?_; rintro e3 w3 ⟨rfl, hb3⟩; have HB3 := Lib.hid (HB.out.trans (hb3.mono HB.out.size)); clear hb3; unfold z5)
      have HB4 : Hid (Below w.heap.size w (w3.alloc (.cells z5 194))) := Lib.hid (HB3.out.trans ((Go.Joins.below_alloc1 w3 _).mono HB3.out.size))
      go_roundw
      case rel => exact ⟨k + 1, by omega, by go_num, rfl, HB4⟩
      case measure => simp [intOf]; omega
    · obtain rfl : k = 8 := by omega
      go_wp2_with fail
      go_ret2
      exact ⟨rfl, HB.out⟩
end Go.Proofs.YtnbhohaphmilmaaGreatDoor.OpenLaw
namespace Go.Proofs.YtnbhohaphmilmaaGreatDoor.SigLaw
set_option linter.unusedSimpArgs false
open Go.RowKit
set_option linter.unusedVariables false
attribute [local go_sem ↓] load58_eq store58_eq zero58 cells58
theorem zeroG_bb : BB zeroG := ⟨⟨by decide, by decide⟩, by decide, by decide⟩
theorem zeroG_right : Right zeroG 0 0 := by constructor <;> first | rfl | decide | (intro i hi; simp [zeroG])
theorem zeroG_good : good zeroG := ⟨0, 0, zeroG_right⟩
set_option maxRecDepth 100000 in
set_option maxHeartbeats 1000000 in
theorem child_is (w : World) : Calls Tryz.prog 254 #[.agg (cellsA zeroG), .bool false] w fun e w' => e = .returned (.tuple #[.agg (cellsA zeroG), .int .i64 0]) ∧ Below w.heap.size w w' := by
  have HC := Lib.hid (check_b zeroG ((w.alloc (.cells (cellsA zeroG) 76)).alloc (.cells (cellsA zeroG) 76)) zeroG_bb)
  have HT := Lib.hid (two_new w zeroG)
  have hl := (two_new w zeroG).R.load
  go_enter Tryz.func254, Tryz.ntmps254
  go_wp2_with fail
  refine HC.out.mono ?_
  rintro e w1 ⟨en, rfl, hb1, hcase⟩
  have HT1 := Lib.hid (HT.out.keep hb1)
  clear hb1 hl HC HT
  rcases hcase with ⟨rfl, -⟩ | ⟨-, hg⟩
  · have HT2 : Hid (Two w (w1.setCell ⟨w.heap.size, 0, none⟩ (.int .i64 0)) w.heap.size (w.heap.size + 1) zeroG zeroG) := Lib.hid (HT1.out.setP 0)
    have c0 := HT1.out.R.c0
    have f0 := HT1.out.R.fz 0
    have hl := HT2.out.R.load
    have hz := HT2.out.Z.store zeroG
    go_wp2
    exact bodyPost_ret (v := .tuple #[.agg (cellsA zeroG), .int .i64 0]) (by rw [results_cell_tmp rfl]; simp [asAddr, Result.andThen, (HT2.out.store zeroG).Z.loadVar]) rfl ⟨rfl, (HT2.out.store zeroG).B⟩
  · exact absurd zeroG_good hg
/-- a child's end makes nothing of a set without signals -/
theorem send7_is (w : World) : Calls Tryz.prog 102 #[.agg (cellsA zeroG), .int .i64 7] w fun e w' => e = .returned (.tuple #[.agg (cellsA zeroG), .int .i64 0]) ∧ Below w.heap.size w w' := by
  refine (send_is zeroG 7 w zeroG_bb).mono ?_
  rintro e w' ⟨en, g', rfl, hb, ⟨rfl, k, P, M, hk, h1, h2, hr, rfl⟩ | ⟨-, -, hn⟩⟩
  · obtain rfl : k = 7 := by omega
    have hP : P = 0 := by have := hr.p; simp [zeroG] at this; omega
    subst hP
    have : sentP zeroG 0 7 = 0 := sentP_pos (.inr ⟨rfl, rfl⟩)
    rw [this]
    exact ⟨rfl, hb⟩
  · exact absurd ⟨zeroG_good, by decide, by decide⟩ hn
end Go.Proofs.YtnbhohaphmilmaaGreatDoor.SigLaw
namespace Go.Proofs.YtnbhohaphmilmaaGreatDoor
open Go.RowKit
set_option linter.unusedVariables false
set_option linter.unusedSimpArgs false
def whA : Array Value := #[.int .u32 0, .slice none 0 0]
set_option maxRecDepth 100000 in
set_option maxHeartbeats 400000 in
theorem idx0_is (w : World) (c : Addr) : Calls Tryz.prog 265 #[.slice none 0 0, .func (.func 266) #[] #[.pointer (some c)]] w fun e w' => e = .returned (.int .i64 (-1)) ∧ w = w' := by
  go_enter Tryz.func265, Tryz.ntmps265
  go_wp2_with fail
  refine wp_loop_rounds 1 ?_
  rw [rounds_succ]
  go_wp2_with fail
  go_ret
  exact ⟨rfl, rfl⟩
set_option maxRecDepth 100000 in
set_option maxHeartbeats 400000 in
theorem wfind0_is {w : World} {Wh : Nat} {nw : Value} (h : Row w Wh 192 #[nw, .slice none 0 0]) (p : Int) : Calls Tryz.prog 191 #[.pointer (some ⟨Wh, 0, none⟩), .int .i64 p] w fun e w' => e = .returned (.int .i64 (-1)) ∧ Below w.heap.size w w' := by
  have hmf : ∀ (fn : Fn) (first cap : Array Value) (w : World), (Instr.makeFunc fn first cap).run Tryz.prog w = .ok (.func fn first cap) w := fun _ _ _ _ => rfl
  have hal := Go.Joins.below_alloc1 w (.cells #[.int .i64 p] 3)
  have c1 : (w.alloc (.cells #[.int .i64 p] 3)).cell? ⟨Wh, 1, none⟩ = some (.slice none 0 0) := by rw [(h.keep hal).cell]; rfl
  have HI := Lib.hid (idx0_is (w.alloc (.cells #[.int .i64 p] 3)) ⟨w.heap.size, 0, none⟩)
  have HB := Lib.hid hal
  clear h hal
  go_enter Tryz.func191, Tryz.ntmps191
  go_wp2_with (go_at_call 265; refine HI.out.mono ?_; rintro e1 w1 ⟨rfl, rfl⟩)
  go_ret
  exact ⟨rfl, HB.out⟩
set_option maxRecDepth 100000 in
set_option maxHeartbeats 400000 in
theorem wout0_is {w : World} {Wh : Nat} {nw : Value} (h : Row w Wh 192 #[nw, .slice none 0 0]) (p : Int) : Calls Tryz.prog 104 #[.pointer (some ⟨Wh, 0, none⟩), .int .i64 p] w fun e w' => e = .returned (.int .i64 4) ∧ Below w.heap.size w w' := by
  have HF := Lib.hid (wfind0_is h p)
  clear h
  go_enter Tryz.func104, Tryz.ntmps104
  go_wp2_with (go_at_call 191; refine HF.out.mono ?_; rintro e1 w1 ⟨rfl, hb1⟩; have HB1 := Lib.hid hb1; clear hb1)
  go_ret
  exact ⟨rfl, HB1.out⟩
end Go.Proofs.YtnbhohaphmilmaaGreatDoor
namespace Go.Proofs.YtnbhohaphmilmaaGreatDoor
open Go.RowKit
set_option linter.unusedVariables false
set_option linter.unusedSimpArgs false
def slT (x : Value) (a b c : Option Value) : Sem Value := Instr.sliceAt 207 x a b c
theorem sl_task (x : Value) (a b c : Option Value) : Instr.sliceAt 207 x a b c = slT x a b c := rfl
theorem slT_front (w : World) {T n cap k : Nat} (h : k ≤ cap) : (slT (.slice (some ⟨T, 0, none⟩) n cap) none (some (.int .i64 k)) (some (.int .i64 k))).run Tryz.prog w = .ok (.slice (some ⟨T, 0, none⟩) k k) w := by
  have h1 : (k : Int) ≤ cap := by omega
  simp [slT, Instr.sliceAt, Instr.slice, Instr.sliceBounds, Instr.sliceBound, asIntOf, run_underlying Tryz.underlying207, h1, h, go_sem]
  (try (intro q; omega))
/-- where what lies behind place k begins -/
def behind (T k cap : Nat) : Addr := if cap = k + 1 then ⟨T, 0, none⟩ else ⟨T, (k + 1) * 15, none⟩
theorem slT_back (w : World) {T n cap k : Nat} (h : k + 1 ≤ n) (hc : n ≤ cap) : (slT (.slice (some ⟨T, 0, none⟩) n cap) (some (.int .i64 ((k : Int) + 1))) none none).run Tryz.prog w = .ok (.slice (some (behind T k cap)) (n - (k + 1)) (cap - (k + 1))) w := by
  have h1 : (k : Int) + 1 ≤ n := by omega
  have h0 : (0 : Int) ≤ (k : Int) + 1 := by omega
  have h2 : ((k : Int) + 1).toNat = k + 1 := by omega
  simp [slT, Instr.sliceAt, Instr.slice, Instr.sliceBounds, Instr.sliceBound, asIntOf, run_underlying Tryz.underlying207, h1, h0, h2, go_sem, behind]
  (try (split <;> rfl))
/-- append's run at a slice cut at i, and what lies behind i -/
def leaveL (l : List Tk) (i : Nat) (m : Nat) : List Tk := fillG (l.eraseIdx i) m
section
variable {w w' : World} {R cap : Nat} {ad : Option Addr} {cpus ticks pin : Int} {l : List Tk} {T i : Nat} {C X : Array Value} {x : Tk}
theorem tks_cut (hC : TksIn C pin l) (hc : l.length * 15 ≤ C.size) (hi : i < l.length) : TksIn (C.toList.take (i * 15) ++ (C.toList.drop ((i + 1) * 15)).take ((l.length - 1 - i) * 15)).toArray pin (l.eraseIdx i) := by
  have hlen : (C.toList.take (i * 15)).length = i * 15 := by rw [List.length_take]; simp; omega
  intro j y hy
  rw [List.getElem?_eraseIdx] at hy
  by_cases hj : j < i
  · rw [if_pos hj] at hy
    refine (hC j y hy).of fun k hk => ?_
    rw [List.getElem?_toArray, List.getElem?_append_left (by omega), List.getElem?_take, if_pos (by omega)]
    simp
  · rw [if_neg hj] at hy
    have hj2 := (List.getElem?_eq_some_iff.1 hy).1
    refine (hC (j + 1) y hy).of fun k hk => ?_
    rw [List.getElem?_toArray, List.getElem?_append_right (by omega), hlen, List.getElem?_take, if_pos (by omega), List.getElem?_drop]
    simp only [Array.getElem?_toList]
    congr 1
    omega
theorem cut_any (h : RunG w R (some ⟨T, 0, none⟩) cap cpus ticks pin l) (hi : i < l.length) : ∃ T' c w', (appT #[.slice (some ⟨T, 0, none⟩) i i, .slice (some (behind T i cap)) (l.length - (i + 1)) (cap - (i + 1))]).run Tryz.prog w = .ok (.slice (some ⟨T', 0, none⟩) (l.length - 1) c) w' ∧ RunG (w'.setCell ⟨R, 3, none⟩ (.slice (some ⟨T', 0, none⟩) (l.length - 1) c)) R (some ⟨T', 0, none⟩) c cpus ticks pin (l.eraseIdx i) ∧ (∃ v, w'.cell? ⟨R, 3, none⟩ = some v) ∧ w'.frozen? ⟨R, 3, none⟩ = false ∧ (T' = T ∨ w.heap.size ≤ T') ∧ Upd (fun _ => False) w w' := by
  obtain ⟨T0, C, e, ht⟩ := h.rows (by omega)
  injection e with e
  injection e with e
  subst e
  obtain ⟨i0, hi0, hz0, hz1, hz2⟩ := info_parts infoT
  have hsz := ht.sz
  have hln := ht.len
  have hml := ht.ml
  have hel : (l.eraseIdx i).length = l.length - 1 := by rw [List.length_eraseIdx, if_pos hi]
  by_cases h0 : l.length - 1 - i = 0
  · rw [show l.length - (i + 1) = 0 by omega]
    have hr := run_append_room_cells (P := Tryz.prog) (w := w) 207 207 216 i0 Tryz.underlying207 hi0 T 0 i i (behind T i cap) 0 (cap - (i + 1)) [] (by simp) (fun j u hu => by simp at hu) (fun u hu => by simp at hu) (by omega) (fun j hj => by simp at hj) (fun j hj => by simp at hj)
    have hq := h.r
    refine ⟨T, i, w, by rw [show l.length - 1 = i + 0 by omega]; exact hr, hq.lay (C := C) (l' := l.eraseIdx i) ⟨ht.ne, ht.row, by omega, by have := ht.mx; omega, by omega, by omega, fun j y hy => ?_⟩ hel.symm, hq.c3, hq.fz 3, .inl rfl, Upd.refl _ _⟩
    rw [List.getElem?_eraseIdx] at hy
    by_cases hj : j < i
    · rw [if_pos hj] at hy; exact ht.tks j y hy
    · rw [if_neg hj] at hy
      have := (List.getElem?_eq_some_iff.1 hy).1
      omega
  · rw [show l.length - (i + 1) = l.length - 1 - i by omega, show behind T i cap = ⟨T, (i + 1) * 15, none⟩ from if_neg (by omega)]
    obtain ⟨v', w', hr, ho, hg⟩ := run_append_arg_grows (P := Tryz.prog) (w := w) 207 207 216 i0 _ 15 112 Tryz.underlying207 hi0 hz0 hz1 hz2 rfl (by decide) ⟨T, 0, none⟩ i i (C.toList.take (i * 15)) (by rw [List.length_take]; simp; omega) (fun j u hu => by
      rw [List.getElem?_take] at hu
      split at hu
      · rw [Addr.add_lit, ht.row.cell]; simpa using hu
      · cases hu) ⟨T, (i + 1) * 15, none⟩ (l.length - 1 - i) (cap - (i + 1)) ((C.toList.drop ((i + 1) * 15)).take ((l.length - 1 - i) * 15)) (by rw [List.length_take, List.length_drop]; simp; omega) (fun j u hu => by
      rw [List.getElem?_take] at hu
      split at hu
      · rw [List.getElem?_drop] at hu
        rw [Addr.add_lit, ht.row.cell]; simpa using hu
      · cases hu) (by omega) (by unfold maxLen; omega) (by omega)
    rw [show i + (l.length - 1 - i) = l.length - 1 by omega] at ho
    have hbg : Below w.heap.size w w' := (Below.refl _ _).grown hg (Nat.le_refl _) (fun k hk => by cases hk)
    obtain ⟨T', c, C', rfl, hT, htr⟩ := tkr_own (l := l.eraseIdx i) (pin := pin) (R := R) ho (by omega) h.lt hel (by omega) (tks_cut ht.tks (by omega) hi)
    have hq := (h.keep hbg).r
    exact ⟨T', c, w', hr, hq.lay htr hel.symm, hq.c3, hq.fz 3, .inr hT, Upd.below hbg⟩
theorem idG_some {t : Int} (h : idG l t = some i) : ∃ x, l[i]? = some x ∧ x.t = t ∧ ∀ (j : Nat) (y : Tk), j < i → l[j]? = some y → (y.t == t) = false := by
  unfold idG at h
  rw [List.findIdx?_eq_some_iff_getElem] at h
  obtain ⟨h1, h2, h3⟩ := h
  refine ⟨l[i], List.getElem?_eq_getElem h1, by simpa using h2, fun j y hj hy => ?_⟩
  have := h3 j hj
  obtain ⟨h4, h5⟩ := List.getElem?_eq_some_iff.1 hy
  subst h5
  simpa using this
attribute [local go_sem ↓] ld_task bs_task sl_task
set_option maxRecDepth 100000 in
set_option maxHeartbeats 1000000 in
theorem leaveG_is {m : Nat} (h : RunG w R ad cap m ticks (onePin m) l) {t : Int} (ht : idG l t = some i) (hm : m ≤ 8) : Calls Tryz.prog 155 #[.pointer (some ⟨R, 0, none⟩), .int .i64 t] w fun e w' => e = .returned (.int .i64 0) ∧ (∃ T c, RunG w' R (some ⟨T, 0, none⟩) c m ticks (onePin m) (leaveL l i m) ∧ (ad = some ⟨T, 0, none⟩ ∨ w.heap.size ≤ T)) ∧ Upd (rS R ad) w w' := by
  obtain ⟨x0, hx0, hxt, hfirst⟩ := idG_some ht
  have hil := (List.getElem?_eq_some_iff.1 hx0).1
  have c3 := h.c3
  obtain ⟨T, C, rfl, hr⟩ := h.rows (by omega)
  have HH := Lib.hid h
  have HR := Lib.hid hr
  have hmx := h.mx
  have hcap := hr.len
  obtain ⟨n, hn⟩ : ∃ n, n = l.length := ⟨_, rfl⟩
  rw [← hn] at c3 hmx hil hcap
  have HN := Lib.hid hn
  have HX := Lib.hid (And.intro hx0 (And.intro hxt hfirst))
  clear h hn ht hx0 hxt hfirst hr
  go_enter Tryz.func155, Tryz.ntmps155
  go_wp2_with fail
  go_loop [11] (fun kv => ∃ k : Nat, k ≤ i ∧ kv = .int .i64 k) (fun kv => n - (intOf kv).toNat)
  case atStart => exact ⟨0, Nat.zero_le _, rfl⟩
  case round =>
    obtain ⟨k, hk0, rfl⟩ := hrel
    have j1 : (k : Int) < n := by omega
    obtain ⟨x, hx⟩ : ∃ x, l[k]? = some x := ⟨l[k]'(by have := HN.out; omega), List.getElem?_eq_getElem _⟩
    have t0 := (HR.out.cell (k * 15)).trans (HR.out.at hx).c0
    by_cases hk : k = i
    · subst hk
      have hxt : x.t = t := by have := HX.out.1; rw [hx] at this; injection this with this; subst this; exact HX.out.2.1
      rw [hxt] at t0
      clear hx hxt
      obtain ⟨T', c, w4, hap, hG4, ⟨u3, e3⟩, f3, hT, hU4⟩ := cut_any HH.out.drew (i := k) (by have := HN.out; omega)
      rw [← HN.out] at hap hG4
      have hs1 := fun w => slT_front w (T := T) (n := n) (cap := cap) (k := k) (by have := HR.out.len; have := HN.out; omega)
      have hs2 := fun w => slT_back w (T := T) (n := n) (cap := cap) (k := k) (by omega) (by have := HR.out.len; have := HN.out; omega)
      have hap : (Builtin.append_ #[207, 207] 207 #[.slice (some ⟨T, 0, none⟩) k k, .slice (some (behind T k cap)) (n - (k + 1)) (cap - (k + 1))]).run Tryz.prog w.drew = .ok (.slice (some ⟨T', 0, none⟩) (n - 1) c) w4 := hap
      have HG4 := Lib.hid hG4
      have HU5 := Lib.hid ((((Upd.drew w).trans hU4).mono (S' := rS R (some ⟨T, 0, none⟩)) (fun _ _ e => e.elim)).trans (Upd.set w4 (i := 3) (.slice (some ⟨T', 0, none⟩) (n - 1) c) (S := rS R (some ⟨T, 0, none⟩)) (b := R) (.inl rfl)))
      have HT3 : Hid ((some (⟨T, 0, none⟩ : Addr) = some ⟨T', 0, none⟩) ∨ w.heap.size ≤ T') := Lib.hid (by rcases hT with q | q; exact .inl (by rw [q]); exact .inr q)
      have n0 : (0 : Int) ≤ k := by omega
      have n1 : (k : Int) + 1 ≤ n := by omega
      have n2 : (n : Int) ≤ cap := by omega
      have n3 : IntKind.i64.wrap ((k : Int) + 1) = k + 1 := IntWalk.i64_in _ (by omega)
      clear hG4 hU4 hT
      go_upto_region 5 with fail
      go_region_law (refine step_append_run rfl (.tmp 31) (.tmp 38) 207 rfl hap ?_)
      all_goals
        clear hap c3 hs1 hs2 e3 f3 t0
        generalize w4.setCell ⟨R, 3, none⟩ (.slice (some ⟨T', 0, none⟩) (n - 1) c) = w5 at *
        have HFI := Lib.hid (fillG_is HG4.out (onePin_ok hm) (by omega))
        go_wp2_with (go_at_call 111; refine HFI.out.mono ?_; rintro e7 w7 ⟨rfl, hr7, hu7⟩; have HR7 := Lib.hid hr7; have HU7 := Lib.hid (HU5.out.trans' hu7 (fun k hk e => by
          rcases e with e | ⟨a, e1, e2⟩
          · exact .inl e
          · injection e1 with e1
            subst e1
            rcases HT3.out with q | q
            · exact .inr ⟨_, q, e2⟩
            · have e2 : k = T' := e2
              omega)); clear hr7 hu7)
        go_ret
        exact ⟨rfl, ⟨_, _, HR7.out, HT3.out⟩, HU7.out⟩
    · have hxt : (x.t == t) = false := HX.out.2.2 k x (by omega) hx
      clear hx
      go_wp2_with fail
      go_round
      case rel => exact ⟨k + 1, by omega, by go_num⟩
      case measure => simp [intOf]; omega
end
end Go.Proofs.YtnbhohaphmilmaaGreatDoor
namespace Go.Proofs.YtnbhohaphmilmaaGreatDoor
open Go.RowKit
set_option linter.unusedVariables false
set_option linter.unusedSimpArgs false
theorem bd_eab (w : World) (e a b : Int) : (bdR 59 #[(0, .int .i64 e), (1, .int .i64 a), (2, .int .i64 b)]).run Tryz.prog w = .ok (.agg (ansV e a b (.slice none 0 0))) w := by kernel_rfl
theorem ansN3 (e a b : Int) : (ansV e a b (.slice none 0 0)).size = 11 ∧ (ansV e a b (.slice none 0 0)).all (·.oneCell') = true := ⟨rfl, ansV_one _ _ _ rfl⟩
theorem KT.u0 {w0 w1 w2 : World} {k : KC} {s : KSt} (h : KT w0 k s) {S : Nat → Prop} (hu : Upd S w1 w2) (hS : ∀ j, S j → s.tag j ≠ 0) : Upd (fun j => s.tag j ≠ 0) w1 w2 ∧ Upd (fun j => j < w0.heap.size) w1 w2 := ⟨hu.mono fun j _ e => hS j e, hu.mono fun j _ e => h.lt (hS j e)⟩
section
variable {w0 w : World} {k : KC} {s : KSt} {p : Nat} {A : Array Value} {T : KSt → Int → Int → Int → Prop}
attribute [local go_sem ↓] ld_ans st_ans ld_call bd_ans
theorem Grew.mB {B0 : Nat} {m m' : MS} {b : Nat} {a r : Int} {new : List Nat} (g : Grew B0 m m' b a r new) {M so j : Nat} (hj : mB M so m' j) : mB M so m j ∨ B0 ≤ j := by
  rcases hj with q | q | q | ⟨x, q⟩ | q
  · exact .inl (.inl q)
  · exact .inl (.inr (.inl q))
  · rcases g.pv with e | ⟨x, h1, e⟩
    · exact .inl (.inr (.inr (.inl (e ▸ q))))
    · rw [e] at q
      injection q with q
      exact .inr (by omega)
  · exact .inl (.inr (.inr (.inr (.inl ⟨x, by rw [← g.S]; exact q⟩))))
  · rw [g.pl] at q
    rcases List.mem_append.mp q with q | q
    · exact .inl (.inr (.inr (.inr (.inr q))))
    · exact .inr (g.nw j q)
end
end Go.Proofs.YtnbhohaphmilmaaGreatDoor
