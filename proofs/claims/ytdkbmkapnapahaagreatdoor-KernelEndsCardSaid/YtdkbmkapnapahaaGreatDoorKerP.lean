/- Whole rows, and parts of rows, by value: of any struct or array type. Walks of parts of a process's end and of its birth: open.Drop at no descriptors, wheel.Out at no timers, sig.Child, Send, Next. -/
import Derived.Test.YtdkbmkapnapahaaGreatDoorDisk2
import Derived.Deep.WholeRow
import Derived.Deep.MidRow
import Derived.Deep.Cut
import Derived.Deep.CutRange
import Derived.Deep.DeepCutAuto
import Derived.Deep.RegionWith
import Derived.ChangeKeysEq
import Derived.Test.YtdkbmkapnapahaaGreatDoorBits
import Derived.Test.YtdkbmkapnapahaaGreatDoorSigPlain
namespace Go.Proofs.YtdkbmkapnapahaaGreatDoor
open Go.RowKit
set_option linter.unusedVariables false
set_option linter.unusedSimpArgs false
/-- names for loads and stores of whole rows: the walk doesn't open them -/
def ldR (T : Nat) (v : Value) : Sem Value := Instr.loadAt T v
def stR (T : Nat) (p v : Value) : Sem Unit := Instr.storeAt T p v
def ixR (T : Nat) (v i : Value) : Sem Value := Instr.index T v i
def bdR (T : Nat) (ps : Array (Nat × Value)) : Sem Value := Instr.build T ps
/-- a whole row in block b -/
def Row (w : World) (b : Nat) (T : Nat) (c : Array Value) : Prop := w.heap[b]? = some (.cells c T (0, 0))
/-- c with cs from o on -/
def putA (c : Array Value) (o : Nat) (cs : List Value) : Array Value := (c.toList.take o ++ cs ++ c.toList.drop (o + cs.length)).toArray
theorem putA_size {c : Array Value} {o : Nat} {cs : List Value} (h : o + cs.length ≤ c.size) : (putA c o cs).size = c.size := by
  simp [putA]; omega
theorem putA_get {c : Array Value} {o : Nat} {cs : List Value} (h : o + cs.length ≤ c.size) (j : Nat) : (putA c o cs)[j]? = if o ≤ j ∧ j < o + cs.length then cs[j - o]? else c[j]? := by
  simp only [putA, List.getElem?_toArray]
  split
  · rename_i hj
    rw [List.append_assoc, List.getElem?_append_right (by simp; omega), List.getElem?_append_left (by simp; omega)]
    simp
    congr 1
    omega
  · rename_i hj
    by_cases h1 : j < o
    · rw [List.append_assoc, List.getElem?_append_left (by simp; omega)]
      simp [List.getElem?_take, h1]
    · rw [List.getElem?_append_right (by simp; omega)]
      simp [List.getElem?_drop]
      congr 1
      omega
theorem putA_set {c : Array Value} {o : Nat} {v : Value} {cs : List Value} (h : o + 1 + cs.length ≤ c.size) : putA (c.setIfInBounds o v) (o + 1) cs = putA c o (v :: cs) := by
  apply Array.ext_getElem?
  intro j
  rw [putA_get (by simp; omega), putA_get (by simp; omega)]
  simp only [List.length_cons, Array.getElem?_setIfInBounds]
  by_cases h0 : j = o
  · subst h0
    rw [if_neg (by omega), if_pos rfl, if_pos (by omega), if_pos (by omega)]
    simp
  · by_cases h1 : o + 1 ≤ j ∧ j < o + 1 + cs.length
    · rw [if_pos h1, if_pos (by omega), show j - o = (j - (o + 1)) + 1 by omega]
      simp
    · rw [if_neg h1, if_neg (fun e => h0 e.symm), if_neg (by omega)]
section
variable {w w' : World} {b T : Nat} {c : Array Value}
theorem Row.lt (h : Row w b T c) : b < w.heap.size := (Array.getElem?_eq_some_iff.1 h).1
theorem Row.keepB {B : Nat} (h : Row w b T c) (hb : Below B w w') (hB : b < B) : Row w' b T c := (hb.block b hB).trans h
theorem Row.keep (h : Row w b T c) (hb : Below w.heap.size w w') : Row w' b T c := h.keepB hb h.lt
theorem Row.upd {S : Nat → Prop} (h : Row w b T c) (hu : Upd S w w') (hn : ¬ S b) : Row w' b T c := (hu.block b h.lt hn).trans h
theorem Row.kept {row : Option Nat} (h : Row w b T c) (hg : w.grownBy w' row) (hne : some b ≠ row) : Row w' b T c := (hg.block b h.lt hne).trans h
theorem Row.alloc (h : Row w b T c) (o : Obj) : Row (w.alloc o) b T c := h.keep ((Below.refl _ _).alloc (Nat.le_refl _) o)
theorem Row.drew (h : Row w b T c) : Row w.drew b T c := h
theorem Row.drewN (h : Row w b T c) (n : Nat) : Row (w.drewN n) b T c := h
theorem Row.cell (h : Row w b T c) (i : Nat) : w.cell? ⟨b, i, none⟩ = c[i]? := cell_of_row w b i _ T (0, 0) h
theorem Row.fz (h : Row w b T c) (i : Nat) : w.frozen? ⟨b, i, none⟩ = false := by
  unfold Row at h
  simp [World.frozen?, h]
theorem row_new (w : World) (T : Nat) (c : Array Value) : Row (w.alloc (.cells c T)) w.heap.size T c := heap_alloc_new w _
theorem Row.setRow (h : Row w b T c) (c' : Array Value) : Row (w.setRow b c') b T c' := setRow_heap w b _ _ T _ h
theorem Row.setRowO (h : Row w b T c) {d : Nat} (hd : d ≠ b) (c' : Array Value) : Row (w.setRow d c') b T c := (setRow_other w d b c' (fun e => hd e.symm)).trans h
theorem Row.setCell (h : Row w b T c) (i : Nat) (v : Value) : w.setCell ⟨b, i, none⟩ v = w.setRow b (c.setIfInBounds i v) := setCell_eq_setRow w b i c T (0, 0) v h
theorem Row.setCells : ∀ (cs : List Value) {w : World} {c : Array Value} {o : Nat}, Row w b T c → o + cs.length ≤ c.size → w.setCells b o cs = w.setRow b (putA c o cs)
  | [], w, c, o, h, _ => by
    have e : putA c o [] = c := by simp [putA]
    rw [e]
    exact (setRow_self w b c T (0, 0) h).symm
  | v :: cs, w, c, o, h, hl => by
    rw [World.setCells, h.setCell o v, Row.setCells cs (h.setRow _) (by simp at hl ⊢; omega), setRow_setRow, putA_set (by simp at hl; omega)]
theorem Row.range (h : Row w b T c) (o n : Nat) : w.rangeAt b o (c.extract o (o + n)).toList := World.rangeAt_of_block h o n
theorem Row.there (h : Row w b T c) {o n : Nat} (hn : o + n ≤ c.size) : w.there b o n := fun j hj => ⟨by rw [h.cell]; simp; omega, h.fz _⟩
/-- a part of a row by value -/
theorem Row.ld (h : Row w b T c) {o n U : Nat} {d : TypeDesc} (hn : o + n ≤ c.size) (hu : Tryz.prog.underlying U = some d) (hd : d.isRow = true) (hi : (Tryz.prog.info? U).map (·.size) = some n) :
    (ldR U (.pointer (some ⟨b, o, none⟩))).run Tryz.prog w = .ok (.agg (c.extract o (o + n))) w := by
  have := run_loadAt_mid (P := Tryz.prog) w b o U _ d (h.range o n) hu hd (by rw [hi]; simp; omega)
  rw [Array.toArray_toList] at this
  exact this
/-- all of it -/
theorem Row.ld0 (h : Row w b T c) {d : TypeDesc} (hu : Tryz.prog.underlying T = some d) (hd : d.isRow = true) (hi : (Tryz.prog.info? T).map (·.size) = some c.size) :
    (ldR T (.pointer (some ⟨b, 0, none⟩))).run Tryz.prog w = .ok (.agg c) w := by
  have := h.ld (o := 0) (n := c.size) (by omega) hu hd hi
  simpa using this
theorem Row.ldV (h : Row w b T c) {d : TypeDesc} (hu : Tryz.prog.underlying T = some d) (hd : d.isRow = true) (hi : (Tryz.prog.info? T).map (·.size) = some c.size) : (loadVar T ⟨b, 0, none⟩).run Tryz.prog w = .ok (.agg c) w := by
  have := run_loadVar_mid (P := Tryz.prog) w b 0 T _ d (h.range 0 c.size) hu hd (by rw [hi]; simp)
  rw [Array.toArray_toList] at this
  simpa using this
theorem Row.st (h : Row w b T c) {o U : Nat} {cs : Array Value} (hn : o + cs.size ≤ c.size) (hi : (Tryz.prog.info? U).map (·.size) = some cs.size) (h1 : cs.all (·.oneCell') = true) :
    (stR U (.pointer (some ⟨b, o, none⟩)) (.agg cs)).run Tryz.prog w = .ok () (w.setRow b (putA c o cs.toList)) := by
  rw [← h.setCells cs.toList (by simpa using hn)]
  exact run_storeAt_mid w b o U cs (h.there hn) hi h1
theorem Row.st0 (h : Row w b T c) {cs : Array Value} (hn : cs.size = c.size) (hi : (Tryz.prog.info? T).map (·.size) = some cs.size) (h1 : cs.all (·.oneCell') = true) :
    (stR T (.pointer (some ⟨b, 0, none⟩)) (.agg cs)).run Tryz.prog w = .ok () (w.setRow b cs) := by
  have := h.st (o := 0) (U := T) (cs := cs) (by omega) hi h1
  rw [this]
  have e : putA c 0 cs.toList = cs := ?_
  · rw [e]
  apply Array.ext_getElem?
  intro j
  rw [putA_get (by simp; omega)]
  simp only [Nat.zero_le, true_and, Nat.zero_add, Nat.sub_zero, Array.length_toList, Array.getElem?_toList]
  split
  · rfl
  · rw [Array.getElem?_eq_none (by omega), Array.getElem?_eq_none (by omega)]
end
theorem results_cell1 {fn : Func} {p : Tmp} {ty : TypeId} (h : fn.results = #[.cell p ty]) (tmps : Array Value) (P : Program) (w : World) :
    (results fn tmps).run P w = ((asAddr (tmps.getD p undef)).run P w).andThen fun a w1 => (loadVar ty a).run P w1 := by
  unfold results
  rw [h]
  simp
theorem results_cell_tmp {fn : Func} {p u : Tmp} {ty : TypeId} (h : fn.results = #[.cell p ty, .tmp u]) (tmps : Array Value) (P : Program) (w : World) :
    (results fn tmps).run P w = ((asAddr (tmps.getD p undef)).run P w).andThen fun a w1 => ((loadVar ty a).run P w1).andThen fun v w2 => .ok (.tuple #[v, tmps.getD u undef]) w2 := by
  unfold results
  rw [h]
  simp
theorem results_tmp4 {fn : Func} {t u x y : Tmp} (h : fn.results = #[.tmp t, .tmp u, .tmp x, .tmp y]) (tmps : Array Value) (P : Program) (w : World) :
    (results fn tmps).run P w = .ok (.tuple #[tmps.getD t undef, tmps.getD u undef, tmps.getD x undef, tmps.getD y undef]) w := by
  unfold results
  rw [h]
  simp
theorem st0_new (w : World) {T : Nat} {c cs : Array Value} (hn : cs.size = c.size) (hi : (Tryz.prog.info? T).map (·.size) = some cs.size) (h1 : cs.all (·.oneCell') = true) :
    (stR T (.pointer (some ⟨w.heap.size, 0, none⟩)) (.agg cs)).run Tryz.prog (w.alloc (.cells c T)) = .ok () (w.alloc (.cells cs T)) := by
  rw [(row_new w T c).st0 hn hi h1, World.setRow_alloc_new]
end Go.Proofs.YtdkbmkapnapahaaGreatDoor
namespace Go.Proofs.YtdkbmkapnapahaaGreatDoor.OpenLaw
open Go.RowKit
set_option linter.unusedVariables false
set_option linter.unusedSimpArgs false
def z5 : Array Value := #[.int .i64 0, .int .i64 0, .int .i64 0, .bool false, .int .i64 0]
set_option maxRecDepth 100000 in
set_option maxHeartbeats 400000 in
theorem close_none {w : World} {b p j : Nat} {fs : Nat → F} {fd : Nat → Nat} (h : OTab w b fs fd) (h1 : 1 ≤ p) (h2 : p ≤ 16) (hj : j < 8) (hx : fd (p * 8 + j) = 0) : Calls Tryz.prog 84 #[.pointer (some ⟨b, 0, none⟩), .int .i64 p, .int .i64 j] w fun e w' => e = .returned (.tuple #[.agg z5, .bool false, .int .i64 4]) ∧ Below w.heap.size w w' := by
  have HF := Lib.hid (find_none (h.alloc (.cells z5 177)) h1 h2 hj hx)
  have HH := Lib.hid (h.alloc (.cells z5 177))
  have HB := Lib.hid (Go.Joins.below_alloc1 w (.cells z5 177))
  have HR := Lib.hid (has_new w [.int .i64 0, .int .i64 0, .int .i64 0, .bool false, .int .i64 0] 177)
  have HZ := Lib.hid (fun i => frozen_new w z5 177 i)
  clear hx h h1 h2 hj
  go_enter Tryz.func84, Tryz.ntmps84
  go_wp2_with fail
  refine HF.out.mono ?_
  rintro e w1 ⟨rfl, hb1⟩
  have R := HR.out.keep hb1
  have r0 := R.2 0 _ rfl
  have r1 := R.2 1 _ rfl
  have r2 := R.2 2 _ rfl
  have r3 := R.2 3 _ rfl
  have r4 := R.2 4 _ rfl
  have z : ∀ i, w1.frozen? ⟨w.heap.size, i, none⟩ = false := fun i => (hb1.frozen (p := ⟨w.heap.size, i, none⟩) (by simp)).trans (HZ.out i)
  have HK := Lib.hid (Below.trans HB.out (hb1.mono (by simp)))
  clear R hb1
  go_wp2
  refine bodyPost_ret (v := .tuple #[.agg z5, .bool false, .int .i64 4]) (by rw [results_cell3 rfl]; go_simp; (try rfl)) rfl ⟨rfl, ?_⟩
  exact ((((HK.out.setCell (p := ⟨_, _, none⟩) (Nat.le_refl _) _).setCell (p := ⟨_, _, none⟩) (Nat.le_refl _) _).setCell (p := ⟨_, _, none⟩) (Nat.le_refl _) _).setCell (p := ⟨_, _, none⟩) (Nat.le_refl _) _).setCell (p := ⟨_, _, none⟩) (Nat.le_refl _) _
set_option maxRecDepth 100000 in
set_option maxHeartbeats 400000 in
theorem dropE_is {w : World} {b p : Nat} {fs : Nat → F} {fd : Nat → Nat} (h : OTab w b fs fd) (h1 : 1 ≤ p) (h2 : p ≤ 16) (hz : ∀ j, j < 8 → fd (p * 8 + j) = 0) : Calls Tryz.prog 76 #[.pointer (some ⟨b, 0, none⟩), .int .i64 p] w fun e w' => e = .returned (.tuple #[.slice none 0 0, .int .i64 0]) ∧ Below w.heap.size w w' := by
  have HO := Lib.hid (owner_is h1 h2 w)
  have HH := Lib.hid h
  have HC := Lib.hid (fun (w0 : World) (t : OTab w0 b fs fd) (j : Nat) (hj : j < 8) => close_none t h1 h2 hj (hz j hj))
  clear h hz
  go_enter Tryz.func76, Tryz.ntmps76
  go_upto_region 4 with (go_at_call 149; refine HO.out.mono ?_; rintro e w1 ⟨rfl, rfl⟩)
  go_wp2_with fail
  go_loopw [6, 14] (fun lv iv wr => ∃ k : Nat, k ≤ 8 ∧ iv = .int .i64 k ∧ lv = .slice none 0 0 ∧ Hid (Below w.heap.size w wr)) (fun _ iv _ => 8 - (intOf iv).toNat)
  case atStart => exact ⟨0, by omega, rfl, rfl, Lib.hid (Below.refl _ _)⟩
  case round =>
    obtain ⟨k, hk, rfl, rfl, HB⟩ := hrel
    by_cases hlt : k < 8
    · have hki : (k : Int) < 8 := by omega
      have HCL := Lib.hid (HC.out wr (HH.out.keep HB.out) k hlt)
      clear hlt
      go_wp2_with (go_at_call 84; refine HCL.out.mono ?_; rintro e3 w3 ⟨rfl, hb3⟩; have HB3 := Lib.hid (HB.out.trans (hb3.mono HB.out.size)); clear hb3; unfold z5)
      have HB4 : Hid (Below w.heap.size w (w3.alloc (.cells z5 177))) := Lib.hid (HB3.out.trans ((Go.Joins.below_alloc1 w3 _).mono HB3.out.size))
      go_roundw
      case rel => exact ⟨k + 1, by omega, by go_num, rfl, HB4⟩
      case measure => simp [intOf]; omega
    · obtain rfl : k = 8 := by omega
      go_wp2_with fail
      go_ret2
      exact ⟨rfl, HB.out⟩
end Go.Proofs.YtdkbmkapnapahaaGreatDoor.OpenLaw
namespace Go.Proofs.YtdkbmkapnapahaaGreatDoor.SigLaw
set_option linter.unusedSimpArgs false
open Go.RowKit
set_option linter.unusedVariables false
attribute [local go_sem ↓] load58_eq store58_eq zero58 cells58
theorem zeroG_bb : BB zeroG := ⟨⟨by decide, by decide⟩, by decide, by decide⟩
theorem zeroG_right : Right zeroG 0 0 := by constructor <;> first | rfl | decide | (intro i hi; simp [zeroG])
theorem zeroG_good : good zeroG := ⟨0, 0, zeroG_right⟩
set_option maxRecDepth 100000 in
set_option maxHeartbeats 1000000 in
theorem child_is (w : World) : Calls Tryz.prog 183 #[.agg (cellsA zeroG), .bool false] w fun e w' => e = .returned (.tuple #[.agg (cellsA zeroG), .int .i64 0]) ∧ Below w.heap.size w w' := by
  have HC := Lib.hid (check_b zeroG ((w.alloc (.cells (cellsA zeroG) 65)).alloc (.cells (cellsA zeroG) 65)) zeroG_bb)
  have HT := Lib.hid (two_new w zeroG)
  have hl := (two_new w zeroG).R.load
  go_enter Tryz.func183, Tryz.ntmps183
  go_wp2_with fail
  refine HC.out.mono ?_
  rintro e w1 ⟨en, rfl, hb1, hcase⟩
  have HT1 := Lib.hid (HT.out.keep hb1)
  clear hb1 hl HC HT
  rcases hcase with ⟨rfl, -⟩ | ⟨-, hg⟩
  · have HT2 : Hid (Two w (w1.setCell ⟨w.heap.size, 0, none⟩ (.int .i64 0)) w.heap.size (w.heap.size + 1) zeroG zeroG) := Lib.hid (HT1.out.setP 0)
    have c0 := HT1.out.R.c0
    have f0 := HT1.out.R.fz 0
    have hl := HT2.out.R.load
    have hz := HT2.out.Z.store zeroG
    go_wp2
    exact bodyPost_ret (v := .tuple #[.agg (cellsA zeroG), .int .i64 0]) (by rw [results_cell_tmp rfl]; simp [asAddr, Result.andThen, (HT2.out.store zeroG).Z.loadVar]) rfl ⟨rfl, (HT2.out.store zeroG).B⟩
  · exact absurd zeroG_good hg
/-- a child's end makes nothing of a set without signals -/
theorem send7_is (w : World) : Calls Tryz.prog 155 #[.agg (cellsA zeroG), .int .i64 7] w fun e w' => e = .returned (.tuple #[.agg (cellsA zeroG), .int .i64 0]) ∧ Below w.heap.size w w' := by
  refine (send_is zeroG 7 w zeroG_bb).mono ?_
  rintro e w' ⟨en, g', rfl, hb, ⟨rfl, k, P, M, hk, h1, h2, hr, rfl⟩ | ⟨-, -, hn⟩⟩
  · obtain rfl : k = 7 := by omega
    have hP : P = 0 := by have := hr.p; simp [zeroG] at this; omega
    subst hP
    have : sentP zeroG 0 7 = 0 := sentP_pos (.inr ⟨rfl, rfl⟩)
    rw [this]
    exact ⟨rfl, hb⟩
  · exact absurd ⟨zeroG_good, by decide, by decide⟩ hn
end Go.Proofs.YtdkbmkapnapahaaGreatDoor.SigLaw
namespace Go.Proofs.YtdkbmkapnapahaaGreatDoor
open Go.RowKit
set_option linter.unusedVariables false
set_option linter.unusedSimpArgs false
def whA : Array Value := #[.int .u32 0, .slice none 0 0]
set_option maxRecDepth 100000 in
set_option maxHeartbeats 400000 in
theorem idx0_is (w : World) (c : Addr) : Calls Tryz.prog 227 #[.slice none 0 0, .func (.func 228) #[] #[.pointer (some c)]] w fun e w' => e = .returned (.int .i64 (-1)) ∧ w = w' := by
  go_enter Tryz.func227, Tryz.ntmps227
  go_wp2_with fail
  refine wp_loop_rounds 1 ?_
  rw [rounds_succ]
  go_wp2_with fail
  go_ret
  exact ⟨rfl, rfl⟩
set_option maxRecDepth 100000 in
set_option maxHeartbeats 400000 in
theorem wfind0_is {w : World} {Wh : Nat} {nw : Value} (h : Row w Wh 175 #[nw, .slice none 0 0]) (p : Int) : Calls Tryz.prog 153 #[.pointer (some ⟨Wh, 0, none⟩), .int .i64 p] w fun e w' => e = .returned (.int .i64 (-1)) ∧ Below w.heap.size w w' := by
  have hmf : ∀ (fn : Fn) (first cap : Array Value) (w : World), (Instr.makeFunc fn first cap).run Tryz.prog w = .ok (.func fn first cap) w := fun _ _ _ _ => rfl
  have hal := Go.Joins.below_alloc1 w (.cells #[.int .i64 p] 3)
  have c1 : (w.alloc (.cells #[.int .i64 p] 3)).cell? ⟨Wh, 1, none⟩ = some (.slice none 0 0) := by rw [(h.keep hal).cell]; rfl
  have HI := Lib.hid (idx0_is (w.alloc (.cells #[.int .i64 p] 3)) ⟨w.heap.size, 0, none⟩)
  have HB := Lib.hid hal
  clear h hal
  go_enter Tryz.func153, Tryz.ntmps153
  go_wp2_with (go_at_call 227; refine HI.out.mono ?_; rintro e1 w1 ⟨rfl, rfl⟩)
  go_ret
  exact ⟨rfl, HB.out⟩
set_option maxRecDepth 100000 in
set_option maxHeartbeats 400000 in
theorem wout0_is {w : World} {Wh : Nat} {nw : Value} (h : Row w Wh 175 #[nw, .slice none 0 0]) (p : Int) : Calls Tryz.prog 80 #[.pointer (some ⟨Wh, 0, none⟩), .int .i64 p] w fun e w' => e = .returned (.int .i64 4) ∧ Below w.heap.size w w' := by
  have HF := Lib.hid (wfind0_is h p)
  clear h
  go_enter Tryz.func80, Tryz.ntmps80
  go_wp2_with (go_at_call 153; refine HF.out.mono ?_; rintro e1 w1 ⟨rfl, hb1⟩; have HB1 := Lib.hid hb1; clear hb1)
  go_ret
  exact ⟨rfl, HB1.out⟩
end Go.Proofs.YtdkbmkapnapahaaGreatDoor
