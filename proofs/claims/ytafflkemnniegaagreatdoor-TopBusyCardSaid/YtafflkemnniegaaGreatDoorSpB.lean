/- Walks of parts of a process's end and of its birth: open.Drop at no descriptors, wheel.Out at no timers, sig.Child, Send, Next. The walk of spread's Leave at any run. The walks of space: here, ask, room, Make, at any memory. -/
import Derived.Test.YtafflkemnniegaaGreatDoorProcExit
import Derived.Test.YtafflkemnniegaaGreatDoorAskB
import Derived.Test.YtafflkemnniegaaGreatDoorBegin
import Derived.Test.YtafflkemnniegaaGreatDoorProcWalk
import Derived.Test.YtafflkemnniegaaGreatDoorSprA
import Derived.BigQuiet
import Derived.Deep.RegionHeld3
namespace Go.Proofs.YtafflkemnniegaaGreatDoor.OpenLaw
open Go.RowKit
set_option linter.unusedVariables false
set_option linter.unusedSimpArgs false
def z5 : Array Value := #[.int .i64 0, .int .i64 0, .int .i64 0, .bool false, .int .i64 0]
set_option maxRecDepth 100000 in
set_option maxHeartbeats 400000 in
theorem close_none {w : World} {b p j : Nat} {fs : Nat → F} {fd : Nat → Nat} (h : OTab w b fs fd) (h1 : 1 ≤ p) (h2 : p ≤ 16) (hj : j < 8) (hx : fd (p * 8 + j) = 0) : Calls Tryz.prog 112 #[.pointer (some ⟨b, 0, none⟩), .int .i64 p, .int .i64 j] w fun e w' => e = .returned (.tuple #[.agg z5, .bool false, .int .i64 4]) ∧ Below w.heap.size w w' := by
  have HF := Lib.hid (find_none (h.alloc (.cells z5 208)) h1 h2 hj hx)
  have HH := Lib.hid (h.alloc (.cells z5 208))
  have HB := Lib.hid (Go.Joins.below_alloc1 w (.cells z5 208))
  have HR := Lib.hid (has_new w [.int .i64 0, .int .i64 0, .int .i64 0, .bool false, .int .i64 0] 208)
  have HZ := Lib.hid (fun i => frozen_new w z5 208 i)
  clear hx h h1 h2 hj
  go_enter Tryz.func112, Tryz.ntmps112
  go_wp2_with fail
  refine HF.out.mono ?_
  rintro e w1 ⟨rfl, hb1⟩
  have R := HR.out.keep hb1
  have r0 := R.2 0 _ rfl
  have r1 := R.2 1 _ rfl
  have r2 := R.2 2 _ rfl
  have r3 := R.2 3 _ rfl
  have r4 := R.2 4 _ rfl
  have z : ∀ i, w1.frozen? ⟨w.heap.size, i, none⟩ = false := fun i => (hb1.frozen (p := ⟨w.heap.size, i, none⟩) (by simp)).trans (HZ.out i)
  have HK := Lib.hid (Below.trans HB.out (hb1.mono (by simp)))
  clear R hb1
  go_wp2
  refine bodyPost_ret (v := .tuple #[.agg z5, .bool false, .int .i64 4]) (by rw [results_cell3 rfl]; go_simp; (try rfl)) rfl ⟨rfl, ?_⟩
  exact ((((HK.out.setCell (p := ⟨_, _, none⟩) (Nat.le_refl _) _).setCell (p := ⟨_, _, none⟩) (Nat.le_refl _) _).setCell (p := ⟨_, _, none⟩) (Nat.le_refl _) _).setCell (p := ⟨_, _, none⟩) (Nat.le_refl _) _).setCell (p := ⟨_, _, none⟩) (Nat.le_refl _) _
set_option maxRecDepth 100000 in
set_option maxHeartbeats 400000 in
theorem dropE_is {w : World} {b p : Nat} {fs : Nat → F} {fd : Nat → Nat} (h : OTab w b fs fd) (h1 : 1 ≤ p) (h2 : p ≤ 16) (hz : ∀ j, j < 8 → fd (p * 8 + j) = 0) : Calls Tryz.prog 106 #[.pointer (some ⟨b, 0, none⟩), .int .i64 p] w fun e w' => e = .returned (.tuple #[.slice none 0 0, .int .i64 0]) ∧ Below w.heap.size w w' := by
  have HO := Lib.hid (owner_is h1 h2 w)
  have HH := Lib.hid h
  have HC := Lib.hid (fun (w0 : World) (t : OTab w0 b fs fd) (j : Nat) (hj : j < 8) => close_none t h1 h2 hj (hz j hj))
  clear h hz
  go_enter Tryz.func106, Tryz.ntmps106
  go_upto_region 4 with (go_at_call 187; refine HO.out.mono ?_; rintro e w1 ⟨rfl, rfl⟩)
  go_wp2_with fail
  go_loopw [6, 14] (fun lv iv wr => ∃ k : Nat, k ≤ 8 ∧ iv = .int .i64 k ∧ lv = .slice none 0 0 ∧ Hid (Below w.heap.size w wr)) (fun _ iv _ => 8 - (intOf iv).toNat)
  case atStart => exact ⟨0, by omega, rfl, rfl, Lib.hid (Below.refl _ _)⟩
  case round =>
    obtain ⟨k, hk, rfl, rfl, HB⟩ := hrel
    by_cases hlt : k < 8
    · have hki : (k : Int) < 8 := by omega
      have HCL := Lib.hid (HC.out wr (HH.out.keep HB.out) k hlt)
      clear hlt
      go_wp2_with (go_at_call 112; refine HCL.out.mono ?_; rintro e3 w3 ⟨rfl, hb3⟩; have HB3 := Lib.hid (HB.out.trans (hb3.mono HB.out.size)); clear hb3; unfold z5)
      have HB4 : Hid (Below w.heap.size w (w3.alloc (.cells z5 208))) := Lib.hid (HB3.out.trans ((Go.Joins.below_alloc1 w3 _).mono HB3.out.size))
      go_roundw
      case rel => exact ⟨k + 1, by omega, by go_num, rfl, HB4⟩
      case measure => simp [intOf]; omega
    · obtain rfl : k = 8 := by omega
      go_wp2_with fail
      go_ret2
      exact ⟨rfl, HB.out⟩
end Go.Proofs.YtafflkemnniegaaGreatDoor.OpenLaw
namespace Go.Proofs.YtafflkemnniegaaGreatDoor.SigLaw
set_option linter.unusedSimpArgs false
open Go.RowKit
set_option linter.unusedVariables false
attribute [local go_sem ↓] load58_eq store58_eq zero58 cells58
theorem zeroG_bb : BB zeroG := ⟨⟨by decide, by decide⟩, by decide, by decide⟩
theorem zeroG_right : Right zeroG 0 0 := by constructor <;> first | rfl | decide | (intro i hi; simp [zeroG])
theorem zeroG_good : good zeroG := ⟨0, 0, zeroG_right⟩
set_option maxRecDepth 100000 in
set_option maxHeartbeats 1000000 in
theorem child_is (w : World) : Calls Tryz.prog 216 #[.agg (cellsA zeroG), .bool false] w fun e w' => e = .returned (.tuple #[.agg (cellsA zeroG), .int .i64 0]) ∧ Below w.heap.size w w' := by
  have HC := Lib.hid (check_b zeroG ((w.alloc (.cells (cellsA zeroG) 66)).alloc (.cells (cellsA zeroG) 66)) zeroG_bb)
  have HT := Lib.hid (two_new w zeroG)
  have hl := (two_new w zeroG).R.load
  go_enter Tryz.func216, Tryz.ntmps216
  go_wp2_with fail
  refine HC.out.mono ?_
  rintro e w1 ⟨en, rfl, hb1, hcase⟩
  have HT1 := Lib.hid (HT.out.keep hb1)
  clear hb1 hl HC HT
  rcases hcase with ⟨rfl, -⟩ | ⟨-, hg⟩
  · have HT2 : Hid (Two w (w1.setCell ⟨w.heap.size, 0, none⟩ (.int .i64 0)) w.heap.size (w.heap.size + 1) zeroG zeroG) := Lib.hid (HT1.out.setP 0)
    have c0 := HT1.out.R.c0
    have f0 := HT1.out.R.fz 0
    have hl := HT2.out.R.load
    have hz := HT2.out.Z.store zeroG
    go_wp2
    exact bodyPost_ret (v := .tuple #[.agg (cellsA zeroG), .int .i64 0]) (by rw [results_cell_tmp rfl]; simp [asAddr, Result.andThen, (HT2.out.store zeroG).Z.loadVar]) rfl ⟨rfl, (HT2.out.store zeroG).B⟩
  · exact absurd zeroG_good hg
/-- a child's end makes nothing of a set without signals -/
theorem send7_is (w : World) : Calls Tryz.prog 69 #[.agg (cellsA zeroG), .int .i64 7] w fun e w' => e = .returned (.tuple #[.agg (cellsA zeroG), .int .i64 0]) ∧ Below w.heap.size w w' := by
  refine (send_is zeroG 7 w zeroG_bb).mono ?_
  rintro e w' ⟨en, g', rfl, hb, ⟨rfl, k, P, M, hk, h1, h2, hr, rfl⟩ | ⟨-, -, hn⟩⟩
  · obtain rfl : k = 7 := by omega
    have hP : P = 0 := by have := hr.p; simp [zeroG] at this; omega
    subst hP
    have : sentP zeroG 0 7 = 0 := sentP_pos (.inr ⟨rfl, rfl⟩)
    rw [this]
    exact ⟨rfl, hb⟩
  · exact absurd ⟨zeroG_good, by decide, by decide⟩ hn
end Go.Proofs.YtafflkemnniegaaGreatDoor.SigLaw
namespace Go.Proofs.YtafflkemnniegaaGreatDoor
open Go.RowKit
set_option linter.unusedVariables false
set_option linter.unusedSimpArgs false
def whA : Array Value := #[.int .u32 0, .slice none 0 0]
set_option maxRecDepth 100000 in
set_option maxHeartbeats 400000 in
theorem idx0_is (w : World) (c : Addr) : Calls Tryz.prog 229 #[.slice none 0 0, .func (.func 230) #[] #[.pointer (some c)]] w fun e w' => e = .returned (.int .i64 (-1)) ∧ w = w' := by
  go_enter Tryz.func229, Tryz.ntmps229
  go_wp2_with fail
  refine wp_loop_rounds 1 ?_
  rw [rounds_succ]
  go_wp2_with fail
  go_ret
  exact ⟨rfl, rfl⟩
set_option maxRecDepth 100000 in
set_option maxHeartbeats 400000 in
theorem wfind0_is {w : World} {Wh : Nat} {nw : Value} (h : Row w Wh 126 #[nw, .slice none 0 0]) (p : Int) : Calls Tryz.prog 147 #[.pointer (some ⟨Wh, 0, none⟩), .int .i64 p] w fun e w' => e = .returned (.int .i64 (-1)) ∧ Below w.heap.size w w' := by
  have hmf : ∀ (fn : Fn) (first cap : Array Value) (w : World), (Instr.makeFunc fn first cap).run Tryz.prog w = .ok (.func fn first cap) w := fun _ _ _ _ => rfl
  have hal := Go.Joins.below_alloc1 w (.cells #[.int .i64 p] 3)
  have c1 : (w.alloc (.cells #[.int .i64 p] 3)).cell? ⟨Wh, 1, none⟩ = some (.slice none 0 0) := by rw [(h.keep hal).cell]; rfl
  have HI := Lib.hid (idx0_is (w.alloc (.cells #[.int .i64 p] 3)) ⟨w.heap.size, 0, none⟩)
  have HB := Lib.hid hal
  clear h hal
  go_enter Tryz.func147, Tryz.ntmps147
  go_wp2_with (go_at_call 229; refine HI.out.mono ?_; rintro e1 w1 ⟨rfl, rfl⟩)
  go_ret
  exact ⟨rfl, HB.out⟩
set_option maxRecDepth 100000 in
set_option maxHeartbeats 400000 in
theorem wout0_is {w : World} {Wh : Nat} {nw : Value} (h : Row w Wh 126 #[nw, .slice none 0 0]) (p : Int) : Calls Tryz.prog 71 #[.pointer (some ⟨Wh, 0, none⟩), .int .i64 p] w fun e w' => e = .returned (.int .i64 4) ∧ Below w.heap.size w w' := by
  have HF := Lib.hid (wfind0_is h p)
  clear h
  go_enter Tryz.func71, Tryz.ntmps71
  go_wp2_with (go_at_call 147; refine HF.out.mono ?_; rintro e1 w1 ⟨rfl, hb1⟩; have HB1 := Lib.hid hb1; clear hb1)
  go_ret
  exact ⟨rfl, HB1.out⟩
end Go.Proofs.YtafflkemnniegaaGreatDoor
namespace Go.Proofs.YtafflkemnniegaaGreatDoor
open Go.RowKit
set_option linter.unusedVariables false
set_option linter.unusedSimpArgs false
def slT (x : Value) (a b c : Option Value) : Sem Value := Instr.sliceAt 130 x a b c
theorem sl_task (x : Value) (a b c : Option Value) : Instr.sliceAt 130 x a b c = slT x a b c := rfl
theorem slT_front (w : World) {T n cap k : Nat} (h : k ≤ cap) : (slT (.slice (some ⟨T, 0, none⟩) n cap) none (some (.int .i64 k)) (some (.int .i64 k))).run Tryz.prog w = .ok (.slice (some ⟨T, 0, none⟩) k k) w := by
  have h1 : (k : Int) ≤ cap := by omega
  simp [slT, Instr.sliceAt, Instr.slice, Instr.sliceBounds, Instr.sliceBound, asIntOf, run_underlying Tryz.underlying130, h1, h, go_sem]
  (try (intro q; omega))
/-- where what lies behind place k begins -/
def behind (T k cap : Nat) : Addr := if cap = k + 1 then ⟨T, 0, none⟩ else ⟨T, (k + 1) * 15, none⟩
theorem slT_back (w : World) {T n cap k : Nat} (h : k + 1 ≤ n) (hc : n ≤ cap) : (slT (.slice (some ⟨T, 0, none⟩) n cap) (some (.int .i64 ((k : Int) + 1))) none none).run Tryz.prog w = .ok (.slice (some (behind T k cap)) (n - (k + 1)) (cap - (k + 1))) w := by
  have h1 : (k : Int) + 1 ≤ n := by omega
  have h0 : (0 : Int) ≤ (k : Int) + 1 := by omega
  have h2 : ((k : Int) + 1).toNat = k + 1 := by omega
  simp [slT, Instr.sliceAt, Instr.slice, Instr.sliceBounds, Instr.sliceBound, asIntOf, run_underlying Tryz.underlying130, h1, h0, h2, go_sem, behind]
  (try (split <;> rfl))
/-- append's run at a slice cut at i, and what lies behind i -/
def leaveL (l : List Tk) (i : Nat) (m : Nat) : List Tk := fillG (l.eraseIdx i) m
section
variable {w w' : World} {R cap : Nat} {ad : Option Addr} {cpus ticks pin : Int} {l : List Tk} {T i : Nat} {C X : Array Value} {x : Tk}
theorem tks_cut (hC : TksIn C pin l) (hc : l.length * 15 ≤ C.size) (hi : i < l.length) : TksIn (C.toList.take (i * 15) ++ (C.toList.drop ((i + 1) * 15)).take ((l.length - 1 - i) * 15)).toArray pin (l.eraseIdx i) := by
  have hlen : (C.toList.take (i * 15)).length = i * 15 := by rw [List.length_take]; simp; omega
  intro j y hy
  rw [List.getElem?_eraseIdx] at hy
  by_cases hj : j < i
  · rw [if_pos hj] at hy
    refine (hC j y hy).of fun k hk => ?_
    rw [List.getElem?_toArray, List.getElem?_append_left (by omega), List.getElem?_take, if_pos (by omega)]
    simp
  · rw [if_neg hj] at hy
    have hj2 := (List.getElem?_eq_some_iff.1 hy).1
    refine (hC (j + 1) y hy).of fun k hk => ?_
    rw [List.getElem?_toArray, List.getElem?_append_right (by omega), hlen, List.getElem?_take, if_pos (by omega), List.getElem?_drop]
    simp only [Array.getElem?_toList]
    congr 1
    omega
theorem cut_any (h : RunG w R (some ⟨T, 0, none⟩) cap cpus ticks pin l) (hi : i < l.length) : ∃ T' c w', (appT #[.slice (some ⟨T, 0, none⟩) i i, .slice (some (behind T i cap)) (l.length - (i + 1)) (cap - (i + 1))]).run Tryz.prog w = .ok (.slice (some ⟨T', 0, none⟩) (l.length - 1) c) w' ∧ RunG (w'.setCell ⟨R, 3, none⟩ (.slice (some ⟨T', 0, none⟩) (l.length - 1) c)) R (some ⟨T', 0, none⟩) c cpus ticks pin (l.eraseIdx i) ∧ (∃ v, w'.cell? ⟨R, 3, none⟩ = some v) ∧ w'.frozen? ⟨R, 3, none⟩ = false ∧ (T' = T ∨ w.heap.size ≤ T') ∧ Upd (fun _ => False) w w' := by
  obtain ⟨T0, C, e, ht⟩ := h.rows (by omega)
  injection e with e
  injection e with e
  subst e
  obtain ⟨i0, hi0, hz0, hz1, hz2⟩ := info_parts infoT
  have hsz := ht.sz
  have hln := ht.len
  have hml := ht.ml
  have hel : (l.eraseIdx i).length = l.length - 1 := by rw [List.length_eraseIdx, if_pos hi]
  by_cases h0 : l.length - 1 - i = 0
  · rw [show l.length - (i + 1) = 0 by omega]
    have hr := run_append_room_cells (P := Tryz.prog) (w := w) 130 130 136 i0 Tryz.underlying130 hi0 T 0 i i (behind T i cap) 0 (cap - (i + 1)) [] (by simp) (fun j u hu => by simp at hu) (fun u hu => by simp at hu) (by omega) (fun j hj => by simp at hj) (fun j hj => by simp at hj)
    have hq := h.r
    refine ⟨T, i, w, by rw [show l.length - 1 = i + 0 by omega]; exact hr, hq.lay (C := C) (l' := l.eraseIdx i) ⟨ht.ne, ht.row, by omega, by have := ht.mx; omega, by omega, by omega, fun j y hy => ?_⟩ hel.symm, hq.c3, hq.fz 3, .inl rfl, Upd.refl _ _⟩
    rw [List.getElem?_eraseIdx] at hy
    by_cases hj : j < i
    · rw [if_pos hj] at hy; exact ht.tks j y hy
    · rw [if_neg hj] at hy
      have := (List.getElem?_eq_some_iff.1 hy).1
      omega
  · rw [show l.length - (i + 1) = l.length - 1 - i by omega, show behind T i cap = ⟨T, (i + 1) * 15, none⟩ from if_neg (by omega)]
    obtain ⟨v', w', hr, ho, hg⟩ := run_append_arg_grows (P := Tryz.prog) (w := w) 130 130 136 i0 _ 15 112 Tryz.underlying130 hi0 hz0 hz1 hz2 rfl (by decide) ⟨T, 0, none⟩ i i (C.toList.take (i * 15)) (by rw [List.length_take]; simp; omega) (fun j u hu => by
      rw [List.getElem?_take] at hu
      split at hu
      · rw [Addr.add_lit, ht.row.cell]; simpa using hu
      · cases hu) ⟨T, (i + 1) * 15, none⟩ (l.length - 1 - i) (cap - (i + 1)) ((C.toList.drop ((i + 1) * 15)).take ((l.length - 1 - i) * 15)) (by rw [List.length_take, List.length_drop]; simp; omega) (fun j u hu => by
      rw [List.getElem?_take] at hu
      split at hu
      · rw [List.getElem?_drop] at hu
        rw [Addr.add_lit, ht.row.cell]; simpa using hu
      · cases hu) (by omega) (by unfold maxLen; omega) (by omega)
    rw [show i + (l.length - 1 - i) = l.length - 1 by omega] at ho
    have hbg : Below w.heap.size w w' := (Below.refl _ _).grown hg (Nat.le_refl _) (fun k hk => by cases hk)
    obtain ⟨T', c, C', rfl, hT, htr⟩ := tkr_own (l := l.eraseIdx i) (pin := pin) (R := R) ho (by omega) h.lt hel (by omega) (tks_cut ht.tks (by omega) hi)
    have hq := (h.keep hbg).r
    exact ⟨T', c, w', hr, hq.lay htr hel.symm, hq.c3, hq.fz 3, .inr hT, Upd.below hbg⟩
theorem idG_some {t : Int} (h : idG l t = some i) : ∃ x, l[i]? = some x ∧ x.t = t ∧ ∀ (j : Nat) (y : Tk), j < i → l[j]? = some y → (y.t == t) = false := by
  unfold idG at h
  rw [List.findIdx?_eq_some_iff_getElem] at h
  obtain ⟨h1, h2, h3⟩ := h
  refine ⟨l[i], List.getElem?_eq_getElem h1, by simpa using h2, fun j y hj hy => ?_⟩
  have := h3 j hj
  obtain ⟨h4, h5⟩ := List.getElem?_eq_some_iff.1 hy
  subst h5
  simpa using this
attribute [local go_sem ↓] ld_task bs_task sl_task
set_option maxRecDepth 100000 in
set_option maxHeartbeats 1000000 in
theorem leaveG_is {m : Nat} (h : RunG w R ad cap m ticks (onePin m) l) {t : Int} (ht : idG l t = some i) (hm : m ≤ 8) : Calls Tryz.prog 109 #[.pointer (some ⟨R, 0, none⟩), .int .i64 t] w fun e w' => e = .returned (.int .i64 0) ∧ (∃ T c, RunG w' R (some ⟨T, 0, none⟩) c m ticks (onePin m) (leaveL l i m) ∧ (ad = some ⟨T, 0, none⟩ ∨ w.heap.size ≤ T)) ∧ Upd (rS R ad) w w' := by
  obtain ⟨x0, hx0, hxt, hfirst⟩ := idG_some ht
  have hil := (List.getElem?_eq_some_iff.1 hx0).1
  have c3 := h.c3
  obtain ⟨T, C, rfl, hr⟩ := h.rows (by omega)
  have HH := Lib.hid h
  have HR := Lib.hid hr
  have hmx := h.mx
  have hcap := hr.len
  obtain ⟨n, hn⟩ : ∃ n, n = l.length := ⟨_, rfl⟩
  rw [← hn] at c3 hmx hil hcap
  have HN := Lib.hid hn
  have HX := Lib.hid (And.intro hx0 (And.intro hxt hfirst))
  clear h hn ht hx0 hxt hfirst hr
  go_enter Tryz.func109, Tryz.ntmps109
  go_wp2_with fail
  go_loop [11] (fun kv => ∃ k : Nat, k ≤ i ∧ kv = .int .i64 k) (fun kv => n - (intOf kv).toNat)
  case atStart => exact ⟨0, Nat.zero_le _, rfl⟩
  case round =>
    obtain ⟨k, hk0, rfl⟩ := hrel
    have j1 : (k : Int) < n := by omega
    obtain ⟨x, hx⟩ : ∃ x, l[k]? = some x := ⟨l[k]'(by have := HN.out; omega), List.getElem?_eq_getElem _⟩
    have t0 := (HR.out.cell (k * 15)).trans (HR.out.at hx).c0
    by_cases hk : k = i
    · subst hk
      have hxt : x.t = t := by have := HX.out.1; rw [hx] at this; injection this with this; subst this; exact HX.out.2.1
      rw [hxt] at t0
      clear hx hxt
      obtain ⟨T', c, w4, hap, hG4, ⟨u3, e3⟩, f3, hT, hU4⟩ := cut_any HH.out.drew (i := k) (by have := HN.out; omega)
      rw [← HN.out] at hap hG4
      have hs1 := fun w => slT_front w (T := T) (n := n) (cap := cap) (k := k) (by have := HR.out.len; have := HN.out; omega)
      have hs2 := fun w => slT_back w (T := T) (n := n) (cap := cap) (k := k) (by omega) (by have := HR.out.len; have := HN.out; omega)
      have hap : (Builtin.append_ #[130, 130] 130 #[.slice (some ⟨T, 0, none⟩) k k, .slice (some (behind T k cap)) (n - (k + 1)) (cap - (k + 1))]).run Tryz.prog w.drew = .ok (.slice (some ⟨T', 0, none⟩) (n - 1) c) w4 := hap
      have HG4 := Lib.hid hG4
      have HU5 := Lib.hid ((((Upd.drew w).trans hU4).mono (S' := rS R (some ⟨T, 0, none⟩)) (fun _ _ e => e.elim)).trans (Upd.set w4 (i := 3) (.slice (some ⟨T', 0, none⟩) (n - 1) c) (S := rS R (some ⟨T, 0, none⟩)) (b := R) (.inl rfl)))
      have HT3 : Hid ((some (⟨T, 0, none⟩ : Addr) = some ⟨T', 0, none⟩) ∨ w.heap.size ≤ T') := Lib.hid (by rcases hT with q | q; exact .inl (by rw [q]); exact .inr q)
      have n0 : (0 : Int) ≤ k := by omega
      have n1 : (k : Int) + 1 ≤ n := by omega
      have n2 : (n : Int) ≤ cap := by omega
      have n3 : IntKind.i64.wrap ((k : Int) + 1) = k + 1 := IntWalk.i64_in _ (by omega)
      clear hG4 hU4 hT
      go_upto_region 5 with fail
      go_region_law (refine step_append_run rfl (.tmp 31) (.tmp 38) 130 rfl hap ?_)
      all_goals
        clear hap c3 hs1 hs2 e3 f3 t0
        generalize w4.setCell ⟨R, 3, none⟩ (.slice (some ⟨T', 0, none⟩) (n - 1) c) = w5 at *
        have HFI := Lib.hid (fillG_is HG4.out (onePin_ok hm) (by omega))
        go_wp2_with (go_at_call 59; refine HFI.out.mono ?_; rintro e7 w7 ⟨rfl, hr7, hu7⟩; have HR7 := Lib.hid hr7; have HU7 := Lib.hid (HU5.out.trans' hu7 (fun k hk e => by
          rcases e with e | ⟨a, e1, e2⟩
          · exact .inl e
          · injection e1 with e1
            subst e1
            rcases HT3.out with q | q
            · exact .inr ⟨_, q, e2⟩
            · have e2 : k = T' := e2
              omega)); clear hr7 hu7)
        go_ret
        exact ⟨rfl, ⟨_, _, HR7.out, HT3.out⟩, HU7.out⟩
    · have hxt : (x.t == t) = false := HX.out.2.2 k x (by omega) hx
      clear hx
      go_wp2_with fail
      go_round
      case rel => exact ⟨k + 1, by omega, by go_num⟩
      case measure => simp [intOf]; omega
end
end Go.Proofs.YtafflkemnniegaaGreatDoor
namespace Go.Proofs.YtafflkemnniegaaGreatDoor
open Go.RowKit Go.Maps
set_option linter.unusedVariables false
set_option linter.unusedSimpArgs false
theorem pp_get {l : List Nat} {i g : Nat} (h : l[i]? = some g) : (pp l)[i]? = some (.pointer (some ⟨g, 0, none⟩)) := by simp [pp, h]
theorem own_form1 {w : World} {B e n : Nat} {v : Value} {l : List Value} (h : w.ownsRow B e 1 v n l) : ∃ p cap, v = .slice p n cap ∧ n ≤ cap ∧ cap ≤ maxLen := by
  rcases h.2 with ⟨rfl, hn⟩ | ⟨g, cap', cur, rfl, _, _, h1, h2, _⟩
  · exact ⟨none, 0, by rw [hn], by omega, by unfold maxLen; omega⟩
  · exact ⟨_, cap', rfl, h1, h2⟩
theorem countP_take (l : List Nat) (h : Nat → Bool) {k g : Nat} (hg : l[k]? = some g) : (l.take (k + 1)).countP h = (l.take k).countP h + (if h g then 1 else 0) := by
  have hk := (List.getElem?_eq_some_iff.1 hg).1
  rw [List.take_add_one, hg]
  simp
section
variable {w w' : World} {M so g : Nat} {fr sl : Int} {m : MS}
theorem MemG.cells (h : MemG w M so fr sl m) : ∃ p cap, m.pv = .slice p m.pl.length cap ∧ m.pl.length ≤ cap ∧ cap ≤ maxLen ∧ ∀ i g, m.pl[i]? = some g → ∃ b, p = some ⟨b, 0, none⟩ ∧ w.cell? ⟨b, i, none⟩ = some (.pointer (some ⟨g, 0, none⟩)) := by
  obtain ⟨p, cap, e, h1, h2⟩ := own_form1 h.ps
  refine ⟨p, cap, e, h1, h2, fun i g hi => ?_⟩
  have hps := h.ps
  rw [e] at hps
  obtain ⟨b, rfl, -, -, -, -⟩ := own_block hps (by have := (List.getElem?_eq_some_iff.1 hi).1; omega)
  refine ⟨b, rfl, ?_⟩
  have := hps.cells (g := b) rfl i _ (pp_get hi)
  rw [Addr.add_lit, Nat.zero_add] at this
  exact this
set_option maxRecDepth 100000 in
set_option maxHeartbeats 400000 in
theorem hereG_is (h : MemG w M so fr sl m) : Calls Tryz.prog 261 #[.pointer (some ⟨M, 0, none⟩)] w fun e w' => e = .returned (.int .i64 (m.pl.countP m.h : Nat)) ∧ w = w' := by
  obtain ⟨p, cap, hpv, hlc, hcm, hcell⟩ := h.cells
  have m3 := h.m3
  rw [hpv] at m3
  have HC := Lib.hid hcell
  have HP := Lib.hid h.pg
  have hmx : (m.pl.length : Int) ≤ 9223372036854775807 := by unfold maxLen at hcm; omega
  obtain ⟨n, hn⟩ : ∃ n, n = m.pl.length := ⟨_, rfl⟩
  rw [← hn] at m3 hmx
  have HN := Lib.hid hn
  clear h hpv hlc hcm hcell hn
  go_enter Tryz.func261, Tryz.ntmps261
  go_wp2_with fail
  go_loop [3, 11] (fun nv kv => ∃ k : Nat, k ≤ n ∧ kv = .int .i64 k ∧ nv = .int .i64 ((m.pl.take k).countP m.h : Nat)) (fun _ kv => n - (intOf kv).toNat)
  case atStart => exact ⟨0, Nat.zero_le _, rfl, by simp⟩
  case round =>
    obtain ⟨k, hk0, rfl, rfl⟩ := hrel
    by_cases hk : k < n
    · have i1 : (k : Int) < n := by omega
      obtain ⟨g, hg⟩ : ∃ g, m.pl[k]? = some g := ⟨m.pl[k]'(by have := HN.out; omega), List.getElem?_eq_getElem _⟩
      obtain ⟨b, rfl, e0⟩ := HC.out k g hg
      have e1 := (HP.out g (List.mem_of_getElem? hg)).hr
      have HCT := Lib.hid (countP_take m.pl m.h hg)
      obtain ⟨q, hq⟩ : ∃ q, q = (m.pl.take k).countP m.h := ⟨_, rfl⟩
      have hqk : q ≤ k := by rw [hq]; exact Nat.le_trans List.countP_le_length (by rw [List.length_take]; omega)
      rw [← hq] at HCT ⊢
      have y5 : IntKind.i64.wrap ((q : Int) + 1) = q + 1 := IntWalk.i64_in _ (by omega)
      clear hg hq
      cases hh : m.h g
      · rw [hh] at e1 HCT
        go_wp2_with fail
        go_round
        case rel => exact ⟨k + 1, by omega, by go_num, by rw [HCT.out]; simp⟩
        case measure => simp [intOf]; omega
      · rw [hh] at e1 HCT
        go_wp2_with fail
        go_round
        case rel => exact ⟨k + 1, by omega, by go_num, by rw [HCT.out]; go_num⟩
        case measure => simp [intOf]; omega
    · obtain rfl : k = n := by omega
      go_wp2_with fail
      go_ret
      exact ⟨ret_int (by rw [List.take_of_length_le (by rw [← HN.out]; omega)]), rfl⟩
set_option maxRecDepth 100000 in
set_option maxHeartbeats 400000 in
theorem roomG_is (h : MemG w M so fr sl m) (n : Int) (h0 : -1000 ≤ n) (hf : 0 ≤ fr ∧ fr ≤ 1000) (hs : 0 ≤ sl ∧ sl ≤ 1000) (hl : m.pl.length ≤ 100000) : Calls Tryz.prog 102 #[.pointer (some ⟨M, 0, none⟩), .int .i64 n] w fun e w' => e = .returned (.bool (decide (n ≤ fr + sl - m.pl.length))) ∧ Below w.heap.size w w' := by
  obtain ⟨p, cap, hpv, hlc, hcm, -⟩ := h.cells
  have m0 := h.m0
  have m1 := h.m1
  have m3 := h.m3
  rw [hpv] at m3
  have y0 : IntKind.i64.wrap (fr + sl) = fr + sl := IntWalk.i64_in _ (by omega)
  have y1 : IntKind.i64.wrap (fr + sl - (m.pl.length : Int)) = fr + sl - m.pl.length := IntWalk.i64_in _ (by omega)
  generalize m.pl.length = k at *
  clear h hpv hlc hcm
  go_enter Tryz.func102, Tryz.ntmps102
  go_wp2_with fail
  go_quiet (fail)
  go_wp2_with fail
  go_ret
  exact ⟨rfl, below_drewN (Below.refl _ _) _⟩
theorem MS.askd (m : MS) (g : Nat) : { m with d := fup m.d g (m.d g), u := fup m.u g (m.u g), h := fup m.h g (m.h g) } = m := by
  cases m
  simp only [fup_id _ _ _ rfl]
theorem MS.askd2 (m : MS) (g : Nat) : { m with d := fup m.d g (m.d g), u := fup m.u g (m.u g), h := fup m.h g true } = { m with h := fup m.h g true } := by
  cases m
  simp only [fup_id _ _ _ rfl]
set_option maxRecDepth 100000 in
set_option maxHeartbeats 400000 in
theorem askG_is (h : MemG w M so fr sl m) (hg : g ∈ m.pl) (hh : m.h g = true ∨ (m.pl.countP m.h : Int) < fr) : Calls Tryz.prog 185 #[.pointer (some ⟨M, 0, none⟩), .pointer (some ⟨g, 0, none⟩)] w fun e w' => e = .returned (.tuple #[]) ∧ MemG w' M so fr sl { m with h := fup m.h g true } ∧ Upd (fun k => k = M ∨ k = g) w w' := by
  obtain ⟨ck, c2⟩ := h.m2
  have hz := h.mz
  have hp := h.pg g hg
  obtain ⟨ak, q18⟩ := hp.ak
  have q17 := hp.hr
  have hpz := hp.fz
  have hne : M ≠ g := fun e => (h.n4 g hg).1 e.symm
  have hne' : g ≠ M := (h.n4 g hg).1
  have r17 : ∀ x, (w.setCell ⟨M, 2, none⟩ x).cell? ⟨g, 17, none⟩ = some (.bool (m.h g)) := fun x => set_blk hne' q17
  have r18 : ∀ x, (w.setCell ⟨M, 2, none⟩ x).cell? ⟨g, 18, none⟩ = some (.int .i64 ak) := fun x => set_blk hne' q18
  have rz : ∀ x j, (w.setCell ⟨M, 2, none⟩ x).frozen? ⟨g, j, none⟩ = false := fun x j => by rw [World.frozen?_setCell]; exact hpz j
  have HR := Lib.hid (fun x y => (h.clock x).page (w' := (w.setCell ⟨M, 2, none⟩ (.int .i64 x)).setCell ⟨g, 18, none⟩ (.int .i64 y)) hg (Upd.set _ _ rfl) (((h.clock x).pg g hg).asked y))
  have HT := Lib.hid (fun x y => (Upd.set w (b := M) (i := 2) (.int .i64 x) (S := fun k => k = M ∨ k = g) (.inl rfl)).trans (Upd.set (w.setCell ⟨M, 2, none⟩ (.int .i64 x)) (b := g) (i := 18) (.int .i64 y) (S := fun k => k = M ∨ k = g) (.inr rfl)))
  have HG := Lib.hid hg
  have HHH := Lib.hid hh
  clear h hp hg hh
  cases hb : m.h g
  · have hlt : (m.pl.countP m.h : Int) < fr := by rcases HHH.out with q | q; rw [hb] at q; cases q; exact q
    rw [hb] at q17 r17
    go_enter Tryz.func185, Tryz.ntmps185
    go_upto_region 3 with fail
    have hm := HR.out (wrap64 (ck + 1)) (wrap64 (ck + 1))
    rw [MS.askd] at hm
    have HU := Lib.hid (HT.out (wrap64 (ck + 1)) (wrap64 (ck + 1)))
    generalize (w.setCell ⟨M, 2, none⟩ (.int .i64 (wrap64 (ck + 1)))).setCell ⟨g, 18, none⟩ (.int .i64 (wrap64 (ck + 1))) = w2 at *
    have c0 := hm.m0
    have HHE : Hid (∀ k, Calls Tryz.prog 261 #[.pointer (some ⟨M, 0, none⟩)] (w2.drewN k) fun e w' => e = .returned (.int .i64 (m.pl.countP m.h : Nat)) ∧ w' = w2.drewN k) := Lib.hid (fun k => (hereG_is (hm.keep (below_drewN (Below.refl _ _) k))).mono (fun e w' ⟨h1, h2⟩ => ⟨h1, h2.symm⟩))
    have HM := Lib.hid hm
    have hp2 := hm.pg g HG.out
    have c17 := hp2.hr
    rw [hb] at c17
    have f17 := hp2.fz 17
    have HF : Hid (∀ nq, MemG ((w2.drewN nq).setCell ⟨g, 17, none⟩ (.bool true)) M so fr sl { m with h := fup m.h g true }) := Lib.hid (fun nq => by
      have h1 := hm.keep (w' := w2.drewN nq) (below_drewN (Below.refl _ _) nq)
      have h2 := h1.page (w' := (w2.drewN nq).setCell ⟨g, 17, none⟩ (.bool true)) HG.out (Upd.set _ _ rfl) ((h1.pg g HG.out).here true)
      rwa [MS.askd2] at h2)
    have hnq : ((m.pl.countP m.h : Int) == fr) = false := by simp; omega
    clear hm r17 r18 rz c2 hz q18 q17 hpz hp2 hlt HR HT HHH
    generalize (m.pl.countP m.h) = cn at *
    go_quiet (first | (go_at_call 261; refine Calls.quiet_of_same (HHE.out _)))
    go_wp2_with fail
    (try simp only [Exit.inBlock, Exit.then]); first | (refine bodyPost_ret (results_none rfl _ _ _) rfl ?_) | (refine bodyPost_end (results_none rfl _ _ _) rfl ?_)
    exact ⟨rfl, HF.out _, (HU.out.trans (Upd.drewN _ _)).trans (Upd.set _ _ (.inr rfl))⟩
  · rw [hb] at q17 r17
    have HE : Hid ({ m with h := fup m.h g true } = m) := Lib.hid (by rw [fup_id _ _ _ hb])
    go_enter Tryz.func185, Tryz.ntmps185
    go_wp2_with fail
    (try simp only [Exit.inBlock, Exit.then]); first | (refine bodyPost_ret (results_none rfl _ _ _) rfl ?_) | (refine bodyPost_end (results_none rfl _ _ _) rfl ?_)
    refine ⟨rfl, ?_, HT.out _ _⟩
    rw [HE.out]
    have hm := HR.out (wrap64 (ck + 1)) (wrap64 (ck + 1))
    rwa [MS.askd] at hm
theorem map_no_nil (w : World) (b : Nat) : (binOp .eql 225 (.map (some b)) (.map none)).run Tryz.prog w = .ok (.bool false) w := by kernel_rfl
/-- the state with a space that is new -/
def MS.made (m : MS) (s : Int) (b : Nat) : MS := { m with nS := m.nS + 1, S := fun k => if k = s then some b else m.S k, nF := fup m.nF b 0, F := fup m.F b (fun _ => none) }
set_option maxRecDepth 100000 in
set_option maxHeartbeats 400000 in
theorem makeG_is (h : MemG w M so fr sl m) {s : Nat} (h1 : 1 ≤ s) (h16 : s ≤ 16) (h0 : m.S s = none) (hb : ∀ j : Nat, 1 ≤ j → j < s → ∃ b, m.S j = some b) (hn : m.nS < 1000000) : Calls Tryz.prog 38 #[.pointer (some ⟨M, 0, none⟩)] w fun e w' => e = .returned (.tuple #[.int .i64 s, .int .i64 0]) ∧ MemG w' M so fr sl (m.made s w.heap.size) ∧ Upd (fun k => k = so) w w' := by
  have hmm := @run_makeMap Tryz.prog
  have m4 := h.m4
  have HH := Lib.hid h
  have HB := Lib.hid hb
  have H0 := Lib.hid (And.intro h0 hn)
  have hs16 : (s : Int) ≤ 16 := by omega
  clear h hb h0 hn
  go_enter Tryz.func38, Tryz.ntmps38
  go_wp2_with fail
  go_loop [4] (fun kv => ∃ k : Nat, 1 ≤ k ∧ k ≤ s ∧ kv = .int .i64 k) (fun kv => 17 - (intOf kv).toNat)
  case atStart => exact ⟨1, by omega, h1, rfl⟩
  case round =>
    obtain ⟨k, k1, k2, rfl⟩ := hrel
    have i0 : (k : Int) ≤ 16 := by omega
    by_cases hk : k < s
    · obtain ⟨b, hb⟩ := HB.out k k1 hk
      have l1 := HH.out.om.look (k := k) (WalkArith.wf_i64 (by omega))
      rw [hb] at l1
      change _ = Result.ok (Value.map (some b)) w at l1
      have l2 := map_no_nil w b
      clear hb
      go_wp2_with fail
      go_round
      case rel => exact ⟨k + 1, by omega, by omega, by go_num⟩
      case measure => simp [intOf]; omega
    · obtain rfl : k = s := by omega
      have l1 := HH.out.om.look (k := k) (WalkArith.wf_i64 (by omega))
      rw [H0.out.1] at l1
      change _ = Result.ok (Value.map none) w at l1
      have l2 := map_is_nil w
      have hg0 := World.grownBy_alloc w (.map #[] 0) none
      have hso : so < w.heap.size := HH.out.lt (.inr (.inl rfl))
      obtain ⟨w2, hup, om2, hg2⟩ := (HH.out.om.kept hg0 (by simp)).put (k := k) (WalkArith.wf_i64 (by omega)) (by have := H0.out.2; unfold maxLen; omega) w.heap.size
      have hup : (Instr.mapUpdate 221 (.map (some so)) (.int .i64 k) (.map (some w.heap.size))).run Tryz.prog (w.alloc (.map #[] 0)) = .ok () w2 := hup
      have HI := Lib.hid ((IMap.made w).kept hg2 (by intro e; injection e with e; omega))
      have HG := Lib.hid (show w.grownBy w2 (some so) from grown_trans (World.grownBy_alloc w (.map #[] 0) (some so)) hg2)
      have HO := Lib.hid om2
      clear om2 hg2 hg0 hso
      go_wp2_with fail
      go_ret2
      exact ⟨rfl, HH.out.born H0.out.1 (Nat.le_refl _) (Upd.grown HG.out rfl) HO.out HI.out, Upd.grown HG.out rfl⟩
end
end Go.Proofs.YtafflkemnniegaaGreatDoor
