/- The walks of package disk: Flush. Whole rows, and parts of rows, by value: of any struct or array type. The walks of what a kernel begins with: pipe.New, wheel.New, space.New, space's Make. The memory of all spaces: what holds of it, and what keeps it. No walk here. -/
import Derived.Test.YtlfemcbfclallaaGreatDoorDisk
import Derived.Deep.WholeRow
import Derived.Deep.MidRow
import Derived.Deep.Cut
import Derived.Deep.CutRange
import Derived.Deep.DeepCutAuto
import Derived.Deep.RegionWith
import Derived.ChangeKeysEq
namespace Go.Proofs.YtlfemcbfclallaaGreatDoor
open Go.RowKit
set_option linter.unusedVariables false
set_option linter.unusedSimpArgs false
def copyB := Builtin.copy_ #[22, 22] 3
theorem copyB_eq : Builtin.copy_ #[22, 22] 3 = copyB := rfl
theorem BK.setRow {w : World} {g : Nat} {l : List Int} (h : BK w g l) (l' : List Int) : BK (w.setRow g (l'.map u8V).toArray) g l' := setRow_heap w g _ _ 5 _ h
theorem run_copyB {w : World} {g o dL dC sL sC sb so : Nat} {cur cs : List Int} (hg : BK w g cur) (hn : cs.length = Nat.min sL dL) (hs : ∀ i, i < cs.length → w.cell? ⟨sb, so + i, none⟩ = some (u8V (cs.getD i 0))) (hf : o + cs.length ≤ cur.length) :
    (copyB #[.slice (some ⟨g, o, none⟩) dL dC, .slice (some ⟨sb, so, none⟩) sL sC]).run Tryz.prog w = .ok (.int .i64 cs.length) (w.setRow g ((splice cur o cs).map u8V).toArray) := by
  have h := run_copy_row (P := Tryz.prog) w 22 22 3 5 g o dL dC ⟨sb, so, none⟩ sL sC (cur.map u8V).toArray 5 (cs.map u8V) Tryz.underlying22 (by kernel_rfl) hg (by simpa using hn) (cells_u8 hs) (by simpa using hf) (u8V_one cs)
  have e : ((cur.map u8V).toArray.toList.take o ++ cs.map u8V ++ (cur.map u8V).toArray.toList.drop (o + (cs.map u8V).length)).toArray = ((splice cur o cs).map u8V).toArray := by
    simp [splice, List.map_take, List.map_drop]
  rw [e] at h
  rw [← copyB_eq, h]
  simp [goInt]
def Dset (D sb nb : Nat) (wv : Value) : Nat → Prop := fun k => k = D ∨ k = sb ∨ k = nb ∨ wv.ownBlock = some k
theorem BK.upd {S : Nat → Prop} {w w' : World} {g : Nat} {l : List Int} (h : BK w g l) (hu : Upd S w w') (hn : ¬ S g) : BK w' g l := (hu.block g h.lt hn).trans h
section
variable {w w' : World} {D sb nb m S : Nat} {wv : Value} {s f : List Int}
theorem Dk.flushed (h : Dk w D sb nb wv m S s f) : Dk ((w.drew.setRow sb (f.map u8V).toArray).setCell ⟨D, 2, none⟩ (.slice none 0 0)) D sb nb (.slice none 0 0) 0 S f f := by
  have u1 : Upd (fun k => k = sb) w (w.drew.setRow sb (f.map u8V).toArray) := (Upd.drew w).trans (Upd.setRow w.drew _ rfl)
  have k : ∀ {o v}, w.cell? ⟨D, o, none⟩ = some v → (w.drew.setRow sb (f.map u8V).toArray).cell? ⟨D, o, none⟩ = some v := fun hc => (u1.cell h.lt h.n1).trans hc
  have u2 : Upd (fun k => k = D) (w.drew.setRow sb (f.map u8V).toArray) ((w.drew.setRow sb (f.map u8V).toArray).setCell ⟨D, 2, none⟩ (.slice none 0 0)) := Upd.set _ _ rfl
  refine ⟨set_off (by decide) (k h.c0), set_off (by decide) (k h.c1), set_same (k h.c2), set_off (by decide) (k h.c3), fun j => ?_, ?_, ?_, ?_, h.lf, h.lf, ⟨[], World.ownsRow_nil _ _ _ _⟩, h.n1, h.n2, h.n3, by simp [Value.ownBlock], by simp [Value.ownBlock], by simp [Value.ownBlock], h.S0, h.S1⟩
  · rw [World.frozen?_setCell]; exact (u1.frozen h.lt h.n1).trans (h.fz j)
  · exact Nat.lt_of_lt_of_le h.lt (Nat.le_trans u1.size u2.size)
  · have : BK w.drew sb s := h.sB
    exact (this.setRow f).upd u2 (fun e => h.n1 e.symm)
  · exact (h.nB.upd u1 (fun e => h.n3 e.symm)).upd u2 (fun e => h.n2 e.symm)
attribute [local go_sem ↓] copyB_eq
set_option maxRecDepth 100000 in
set_option maxHeartbeats 400000 in
theorem flush_is (h : Dk w D sb nb wv m S s f) : Calls Tryz.prog 48 #[.pointer (some ⟨D, 0, none⟩)] w fun e w' => e = .returned (.tuple #[]) ∧ Dk w' D sb nb (.slice none 0 0) 0 S f f ∧ Upd (fun k => k = D ∨ k = sb) w w' := by
  have c0 := h.c0
  have c1 := h.c1
  have c2 := h.c2
  have fz : (w.drew.setRow sb (f.map u8V).toArray).frozen? ⟨D, 2, none⟩ = false := (((Upd.drew (S := fun k => k = sb) w).trans (Upd.setRow w.drew _ rfl)).frozen h.lt h.n1).trans (h.fz 2)
  have c2' : (w.drew.setRow sb (f.map u8V).toArray).cell? ⟨D, 2, none⟩ = some wv := (((Upd.drew (S := fun k => k = sb) w).trans (Upd.setRow w.drew _ rfl)).cell h.lt h.n1).trans c2
  have HGO := Lib.hid (goes_is h)
  have HFL := Lib.hid h.flushed
  have HUP := Lib.hid (((Upd.drew (S := fun k => k = D ∨ k = sb) w).trans (Upd.setRow w.drew (f.map u8V).toArray (.inr rfl))).trans (Upd.set (i := 2) _ (.slice none 0 0) (.inl rfl)))
  have hcp : (copyB #[.slice (some ⟨sb, 0, none⟩) (S * 64) (S * 64), .slice (some ⟨nb, 0, none⟩) (S * 64) (S * 64)]).run Tryz.prog w.drew = .ok (.int .i64 ((S * 64 : Nat) : Int)) (w.drew.setRow sb (f.map u8V).toArray) := by
    have := run_copyB (w := w.drew) (g := sb) (o := 0) (dL := S * 64) (dC := S * 64) (sL := S * 64) (sC := S * 64) (sb := nb) (so := 0) (cur := s) (cs := f) h.sB (by rw [h.lf]; exact (Nat.min_self _).symm) (fun i hi => by rw [Nat.zero_add]; exact h.nB.cell hi) (by rw [h.lf, h.ls]; omega)
    have e : splice s 0 f = f := by
      have e1 := h.lf
      have e2 := h.ls
      simp [splice]
      omega
    rw [e, h.lf] at this
    exact this
  obtain ⟨n, hn⟩ : ∃ n, n = S * 64 := ⟨_, rfl⟩
  have b0 : (n : Int) ≤ 16384 := by have := h.S1; omega
  rw [← hn] at c0 c1 hcp
  generalize w.drew.setRow sb (f.map u8V).toArray = w1 at *
  clear h hn
  go_enter Tryz.func48, Tryz.ntmps48
  go_upto_region 1 with (go_at_call 106; refine HGO.out.mono ?_; rintro e1 w1 ⟨rfl, rfl⟩)
  go_region
  go_wp2_with fail
  (try simp only [Exit.inBlock, Exit.then]); first | (refine bodyPost_ret (results_none rfl _ _ _) rfl ?_) | (refine bodyPost_end (results_none rfl _ _ _) rfl ?_)
  exact ⟨rfl, HFL.out, HUP.out⟩
end
end Go.Proofs.YtlfemcbfclallaaGreatDoor
namespace Go.Proofs.YtlfemcbfclallaaGreatDoor
open Go.RowKit
set_option linter.unusedVariables false
set_option linter.unusedSimpArgs false
def ldR (T : Nat) (v : Value) : Sem Value := Instr.loadAt T v
def stR (T : Nat) (p v : Value) : Sem Unit := Instr.storeAt T p v
def ixR (T : Nat) (v i : Value) : Sem Value := Instr.index T v i
def bdR (T : Nat) (ps : Array (Nat × Value)) : Sem Value := Instr.build T ps
def Row (w : World) (b : Nat) (T : Nat) (c : Array Value) : Prop := w.heap[b]? = some (.cells c T (0, 0))
def putA (c : Array Value) (o : Nat) (cs : List Value) : Array Value := (c.toList.take o ++ cs ++ c.toList.drop (o + cs.length)).toArray
theorem putA_size {c : Array Value} {o : Nat} {cs : List Value} (h : o + cs.length ≤ c.size) : (putA c o cs).size = c.size := by
  simp [putA]; omega
theorem putA_get {c : Array Value} {o : Nat} {cs : List Value} (h : o + cs.length ≤ c.size) (j : Nat) : (putA c o cs)[j]? = if o ≤ j ∧ j < o + cs.length then cs[j - o]? else c[j]? := by
  simp only [putA, List.getElem?_toArray]
  split
  · rename_i hj
    rw [List.append_assoc, List.getElem?_append_right (by simp; omega), List.getElem?_append_left (by simp; omega)]
    simp
    congr 1
    omega
  · rename_i hj
    by_cases h1 : j < o
    · rw [List.append_assoc, List.getElem?_append_left (by simp; omega)]
      simp [List.getElem?_take, h1]
    · rw [List.getElem?_append_right (by simp; omega)]
      simp [List.getElem?_drop]
      congr 1
      omega
theorem putA_set {c : Array Value} {o : Nat} {v : Value} {cs : List Value} (h : o + 1 + cs.length ≤ c.size) : putA (c.setIfInBounds o v) (o + 1) cs = putA c o (v :: cs) := by
  apply Array.ext_getElem?
  intro j
  rw [putA_get (by simp; omega), putA_get (by simp; omega)]
  simp only [List.length_cons, Array.getElem?_setIfInBounds]
  by_cases h0 : j = o
  · subst h0
    rw [if_neg (by omega), if_pos rfl, if_pos (by omega), if_pos (by omega)]
    simp
  · by_cases h1 : o + 1 ≤ j ∧ j < o + 1 + cs.length
    · rw [if_pos h1, if_pos (by omega), show j - o = (j - (o + 1)) + 1 by omega]
      simp
    · rw [if_neg h1, if_neg (fun e => h0 e.symm), if_neg (by omega)]
section
variable {w w' : World} {b T : Nat} {c : Array Value}
theorem Row.lt (h : Row w b T c) : b < w.heap.size := (Array.getElem?_eq_some_iff.1 h).1
theorem Row.keepB {B : Nat} (h : Row w b T c) (hb : Below B w w') (hB : b < B) : Row w' b T c := (hb.block b hB).trans h
theorem Row.keep (h : Row w b T c) (hb : Below w.heap.size w w') : Row w' b T c := h.keepB hb h.lt
theorem Row.upd {S : Nat → Prop} (h : Row w b T c) (hu : Upd S w w') (hn : ¬ S b) : Row w' b T c := (hu.block b h.lt hn).trans h
theorem Row.kept {row : Option Nat} (h : Row w b T c) (hg : w.grownBy w' row) (hne : some b ≠ row) : Row w' b T c := (hg.block b h.lt hne).trans h
theorem Row.alloc (h : Row w b T c) (o : Obj) : Row (w.alloc o) b T c := h.keep ((Below.refl _ _).alloc (Nat.le_refl _) o)
theorem Row.drew (h : Row w b T c) : Row w.drew b T c := h
theorem Row.drewN (h : Row w b T c) (n : Nat) : Row (w.drewN n) b T c := h
theorem Row.cell (h : Row w b T c) (i : Nat) : w.cell? ⟨b, i, none⟩ = c[i]? := cell_of_row w b i _ T (0, 0) h
theorem Row.fz (h : Row w b T c) (i : Nat) : w.frozen? ⟨b, i, none⟩ = false := by
  unfold Row at h
  simp [World.frozen?, h]
theorem row_new (w : World) (T : Nat) (c : Array Value) : Row (w.alloc (.cells c T)) w.heap.size T c := heap_alloc_new w _
theorem Row.setRow (h : Row w b T c) (c' : Array Value) : Row (w.setRow b c') b T c' := setRow_heap w b _ _ T _ h
theorem Row.setRowO (h : Row w b T c) {d : Nat} (hd : d ≠ b) (c' : Array Value) : Row (w.setRow d c') b T c := (setRow_other w d b c' (fun e => hd e.symm)).trans h
theorem Row.setCell (h : Row w b T c) (i : Nat) (v : Value) : w.setCell ⟨b, i, none⟩ v = w.setRow b (c.setIfInBounds i v) := setCell_eq_setRow w b i c T (0, 0) v h
theorem Row.setCells : ∀ (cs : List Value) {w : World} {c : Array Value} {o : Nat}, Row w b T c → o + cs.length ≤ c.size → w.setCells b o cs = w.setRow b (putA c o cs)
  | [], w, c, o, h, _ => by
    have e : putA c o [] = c := by simp [putA]
    rw [e]
    exact (setRow_self w b c T (0, 0) h).symm
  | v :: cs, w, c, o, h, hl => by
    rw [World.setCells, h.setCell o v, Row.setCells cs (h.setRow _) (by simp at hl ⊢; omega), setRow_setRow, putA_set (by simp at hl; omega)]
theorem Row.range (h : Row w b T c) (o n : Nat) : w.rangeAt b o (c.extract o (o + n)).toList := World.rangeAt_of_block h o n
theorem Row.there (h : Row w b T c) {o n : Nat} (hn : o + n ≤ c.size) : w.there b o n := fun j hj => ⟨by rw [h.cell]; simp; omega, h.fz _⟩
theorem Row.ld (h : Row w b T c) {o n U : Nat} {d : TypeDesc} (hn : o + n ≤ c.size) (hu : Tryz.prog.underlying U = some d) (hd : d.isRow = true) (hi : (Tryz.prog.info? U).map (·.size) = some n) :
    (ldR U (.pointer (some ⟨b, o, none⟩))).run Tryz.prog w = .ok (.agg (c.extract o (o + n))) w := by
  have := run_loadAt_mid (P := Tryz.prog) w b o U _ d (h.range o n) hu hd (by rw [hi]; simp; omega)
  rw [Array.toArray_toList] at this
  exact this
theorem Row.ld0 (h : Row w b T c) {d : TypeDesc} (hu : Tryz.prog.underlying T = some d) (hd : d.isRow = true) (hi : (Tryz.prog.info? T).map (·.size) = some c.size) :
    (ldR T (.pointer (some ⟨b, 0, none⟩))).run Tryz.prog w = .ok (.agg c) w := by
  have := h.ld (o := 0) (n := c.size) (by omega) hu hd hi
  simpa using this
theorem Row.ldV (h : Row w b T c) {d : TypeDesc} (hu : Tryz.prog.underlying T = some d) (hd : d.isRow = true) (hi : (Tryz.prog.info? T).map (·.size) = some c.size) : (loadVar T ⟨b, 0, none⟩).run Tryz.prog w = .ok (.agg c) w := by
  have := run_loadVar_mid (P := Tryz.prog) w b 0 T _ d (h.range 0 c.size) hu hd (by rw [hi]; simp)
  rw [Array.toArray_toList] at this
  simpa using this
theorem Row.st (h : Row w b T c) {o U : Nat} {cs : Array Value} (hn : o + cs.size ≤ c.size) (hi : (Tryz.prog.info? U).map (·.size) = some cs.size) (h1 : cs.all (·.oneCell') = true) :
    (stR U (.pointer (some ⟨b, o, none⟩)) (.agg cs)).run Tryz.prog w = .ok () (w.setRow b (putA c o cs.toList)) := by
  rw [← h.setCells cs.toList (by simpa using hn)]
  exact run_storeAt_mid w b o U cs (h.there hn) hi h1
theorem Row.st0 (h : Row w b T c) {cs : Array Value} (hn : cs.size = c.size) (hi : (Tryz.prog.info? T).map (·.size) = some cs.size) (h1 : cs.all (·.oneCell') = true) :
    (stR T (.pointer (some ⟨b, 0, none⟩)) (.agg cs)).run Tryz.prog w = .ok () (w.setRow b cs) := by
  have := h.st (o := 0) (U := T) (cs := cs) (by omega) hi h1
  rw [this]
  have e : putA c 0 cs.toList = cs := ?_
  · rw [e]
  apply Array.ext_getElem?
  intro j
  rw [putA_get (by simp; omega)]
  simp only [Nat.zero_le, true_and, Nat.zero_add, Nat.sub_zero, Array.length_toList, Array.getElem?_toList]
  split
  · rfl
  · rw [Array.getElem?_eq_none (by omega), Array.getElem?_eq_none (by omega)]
end
theorem results_cell1 {fn : Func} {p : Tmp} {ty : TypeId} (h : fn.results = #[.cell p ty]) (tmps : Array Value) (P : Program) (w : World) :
    (results fn tmps).run P w = ((asAddr (tmps.getD p undef)).run P w).andThen fun a w1 => (loadVar ty a).run P w1 := by
  unfold results
  rw [h]
  simp
theorem results_cell_tmp {fn : Func} {p u : Tmp} {ty : TypeId} (h : fn.results = #[.cell p ty, .tmp u]) (tmps : Array Value) (P : Program) (w : World) :
    (results fn tmps).run P w = ((asAddr (tmps.getD p undef)).run P w).andThen fun a w1 => ((loadVar ty a).run P w1).andThen fun v w2 => .ok (.tuple #[v, tmps.getD u undef]) w2 := by
  unfold results
  rw [h]
  simp
theorem results_tmp4 {fn : Func} {t u x y : Tmp} (h : fn.results = #[.tmp t, .tmp u, .tmp x, .tmp y]) (tmps : Array Value) (P : Program) (w : World) :
    (results fn tmps).run P w = .ok (.tuple #[tmps.getD t undef, tmps.getD u undef, tmps.getD x undef, tmps.getD y undef]) w := by
  unfold results
  rw [h]
  simp
theorem st0_new (w : World) {T : Nat} {c cs : Array Value} (hn : cs.size = c.size) (hi : (Tryz.prog.info? T).map (·.size) = some cs.size) (h1 : cs.all (·.oneCell') = true) :
    (stR T (.pointer (some ⟨w.heap.size, 0, none⟩)) (.agg cs)).run Tryz.prog (w.alloc (.cells c T)) = .ok () (w.alloc (.cells cs T)) := by
  rw [(row_new w T c).st0 hn hi h1, World.setRow_alloc_new]
end Go.Proofs.YtlfemcbfclallaaGreatDoor
namespace Go.Proofs.YtlfemcbfclallaaGreatDoor
open Go.RowKit Go.Maps
set_option linter.unusedVariables false
set_option linter.unusedSimpArgs false
def pipA : Array Value := Array.replicate 16 (.pointer none)
set_option maxRecDepth 100000 in
set_option maxHeartbeats 400000 in
theorem pnew_is (w : World) : Calls Tryz.prog 26 #[] w fun e w' => e = .returned (.pointer (some ⟨w.heap.size, 0, none⟩)) ∧ w' = w.alloc (.cells pipA 155) := by
  go_enter Tryz.func26, Tryz.ntmps26
  go_wp2_with fail
  go_ret
  exact ⟨rfl, rfl⟩
set_option maxRecDepth 100000 in
set_option maxHeartbeats 400000 in
theorem wnew_is (w : World) : Calls Tryz.prog 27 #[.int .u32 0] w fun e w' => e = .returned (.pointer (some ⟨w.heap.size, 0, none⟩)) ∧ w' = w.alloc (.cells #[.int .u32 0, .slice none 0 0] 158) := by
  go_enter Tryz.func27, Tryz.ntmps27
  go_wp2_with fail
  go_ret
  exact ⟨rfl, rfl⟩
set_option maxRecDepth 100000 in
set_option maxHeartbeats 400000 in
theorem spnew_is (w : World) : Calls Tryz.prog 31 #[.int .i64 64, .int .i64 64] w fun e w' => e = .returned (.tuple #[.pointer (some ⟨w.heap.size + 1, 0, none⟩), .int .i64 0]) ∧ w' = (w.alloc (.map #[] 0)).alloc (.cells #[.int .i64 64, .int .i64 64, .int .i64 0, .slice none 0 0, .map (some w.heap.size)] 179) := by
  have hmm := @run_makeMap Tryz.prog
  go_enter Tryz.func31, Tryz.ntmps31
  go_wp2_with fail
  go_ret2
  exact ⟨rfl, rfl⟩
theorem grown_trans {a b c : World} {row : Option Nat} (h : a.grownBy b row) (k : b.grownBy c row) : a.grownBy c row := ⟨k.os.trans h.os, k.tape.trans h.tape, k.output.trans h.output, Nat.le_trans h.size k.size, fun i hi hne => (k.block i (Nat.lt_of_lt_of_le hi h.size) hne).trans (h.block i hi hne)⟩
theorem map_is_nil (w : World) : (binOp .eql 180 (.map none) (.map none)).run Tryz.prog w = .ok (.bool true) w := by kernel_rfl
set_option maxRecDepth 100000 in
set_option maxHeartbeats 400000 in
theorem spmake_is {w : World} {M so : Nat} (m4 : w.cell? ⟨M, 4, none⟩ = some (.map (some so))) (om : OMap w so 0 (fun _ => none)) : Calls Tryz.prog 32 #[.pointer (some ⟨M, 0, none⟩)] w fun e w' => e = .returned (.tuple #[.int .i64 1, .int .i64 0]) ∧ OMap w' so 1 (fun k => if k = 1 then some w.heap.size else none) ∧ IMap w' w.heap.size 0 (fun _ => none) ∧ w.grownBy w' (some so) := by
  have hmm := @run_makeMap Tryz.prog
  have l1 : (Instr.lookup 176 (.map (some so)) (.int .i64 1) false).run Tryz.prog w = .ok (.map none) w := om.look (by decide)
  have l2 := map_is_nil w
  have hg0 := World.grownBy_alloc w (.map #[] 0) none
  have hso : so < w.heap.size := by
    obtain ⟨D, hD, _⟩ := om
    exact hD.lt
  obtain ⟨w2, hup, om2, hg2⟩ := (om.kept hg0 (by simp)).put (k := 1) (by decide) (by unfold maxLen; omega) w.heap.size
  have hup : (Instr.mapUpdate 176 (.map (some so)) (.int .i64 1) (.map (some w.heap.size))).run Tryz.prog (w.alloc (.map #[] 0)) = .ok () w2 := hup
  have HI := Lib.hid ((IMap.made w).kept hg2 (by intro e; injection e with e; omega))
  have HG := Lib.hid (show w.grownBy w2 (some so) from grown_trans (World.grownBy_alloc w (.map #[] 0) (some so)) hg2)
  have HO := Lib.hid om2
  clear om om2 hg2 hg0 hso
  go_enter Tryz.func32, Tryz.ntmps32
  go_wp2_with fail
  refine wp_loop_rounds 1 ?_
  rw [rounds_succ]
  go_wp2_with fail
  go_ret2
  exact ⟨rfl, HO.out, HI.out, HG.out⟩
end Go.Proofs.YtlfemcbfclallaaGreatDoor
namespace Go.Proofs.YtlfemcbfclallaaGreatDoor
open Go.RowKit Go.Maps
set_option linter.unusedVariables false
set_option linter.unusedSimpArgs false
structure PgAt (w : World) (g : Nat) (d : Nat → Int) (u : Int) (h : Bool) : Prop where
  lt : g < w.heap.size
  dc : ∀ j, j < 16 → w.cell? ⟨g, j, none⟩ = some (.int .u8 (d j))
  us : w.cell? ⟨g, 16, none⟩ = some (.int .i64 u)
  hr : w.cell? ⟨g, 17, none⟩ = some (.bool h)
  ak : ∃ a, w.cell? ⟨g, 18, none⟩ = some (.int .i64 a)
  fz : ∀ j, w.frozen? ⟨g, j, none⟩ = false
  rw : ∃ C, Row w g 342 C
theorem row_set {w : World} {b T i : Nat} {v : Value} (h : ∃ C, Row w b T C) : ∃ C, Row (w.setCell ⟨b, i, none⟩ v) b T C := by
  obtain ⟨C, hC⟩ := h
  exact ⟨_, by rw [hC.setCell]; exact hC.setRow _⟩
section
variable {w w' : World} {g : Nat} {d : Nat → Int} {u : Int} {h : Bool}
theorem PgAt.upd {S : Nat → Prop} (p : PgAt w g d u h) (hu : Upd S w w') (hn : ¬ S g) : PgAt w' g d u h := by
  have k : ∀ {o v}, w.cell? ⟨g, o, none⟩ = some v → w'.cell? ⟨g, o, none⟩ = some v := fun hc => (hu.cell p.lt hn).trans hc
  obtain ⟨a, ha⟩ := p.ak
  exact ⟨Nat.lt_of_lt_of_le p.lt hu.size, fun j hj => k (p.dc j hj), k p.us, k p.hr, ⟨a, k ha⟩, fun j => (hu.frozen p.lt hn).trans (p.fz j), by obtain ⟨C, hC⟩ := p.rw; exact ⟨C, hC.upd hu hn⟩⟩
theorem PgAt.keep (p : PgAt w g d u h) (hb : Below w.heap.size w w') : PgAt w' g d u h := p.upd (S := fun _ => False) (Upd.below hb) (fun e => e)
theorem PgAt.asked (p : PgAt w g d u h) (x : Int) : PgAt (w.setCell ⟨g, 18, none⟩ (.int .i64 x)) g d u h := by
  obtain ⟨a, ha⟩ := p.ak
  exact ⟨by simpa [World.setCell] using p.lt, fun j hj => set_off (by omega) (p.dc j hj), set_off (by omega) p.us, set_off (by omega) p.hr, ⟨x, set_same ha⟩, fun j => by rw [World.frozen?_setCell]; exact p.fz j, row_set p.rw⟩
theorem PgAt.users (p : PgAt w g d u h) (x : Int) : PgAt (w.setCell ⟨g, 16, none⟩ (.int .i64 x)) g d x h := by
  obtain ⟨a, ha⟩ := p.ak
  exact ⟨by simpa [World.setCell] using p.lt, fun j hj => set_off (by omega) (p.dc j hj), set_same p.us, set_off (by omega) p.hr, ⟨a, set_off (by omega) ha⟩, fun j => by rw [World.frozen?_setCell]; exact p.fz j, row_set p.rw⟩
theorem PgAt.byte (p : PgAt w g d u h) {i : Nat} (hi : i < 16) (x : Int) : PgAt (w.setCell ⟨g, i, none⟩ (.int .u8 x)) g (fun j => if j = i then x else d j) u h := by
  obtain ⟨a, ha⟩ := p.ak
  refine ⟨by simpa [World.setCell] using p.lt, fun j hj => ?_, set_off (by omega) p.us, set_off (by omega) p.hr, ⟨a, set_off (by omega) ha⟩, fun j => by rw [World.frozen?_setCell]; exact p.fz j, row_set p.rw⟩
  by_cases hji : j = i
  · subst hji
    rw [set_same (p.dc j hj)]
    simp
  · rw [set_off hji (p.dc j hj)]
    simp [hji]
end
structure MS where
  pv : Value
  pl : List Nat
  nS : Nat
  S : Int → Option Nat
  nF : Nat → Nat
  F : Nat → Int → Option (Nat × Int)
  d : Nat → Nat → Int
  u : Nat → Int
  h : Nat → Bool
def fup {α : Type} (f : Nat → α) (g : Nat) (x : α) : Nat → α := fun k => if k = g then x else f k
theorem fup_same {α : Type} (f : Nat → α) (g : Nat) (x : α) : fup f g x g = x := if_pos rfl
theorem fup_off {α : Type} (f : Nat → α) {g k : Nat} (x : α) (h : k ≠ g) : fup f g x k = f k := if_neg h
theorem fup_id {α : Type} (f : Nat → α) (g : Nat) (x : α) (h : f g = x) : fup f g x = f := by
  funext k
  unfold fup
  split
  · rename_i e; rw [e, h]
  · rfl
def mB (M so : Nat) (m : MS) (k : Nat) : Prop := k = M ∨ k = so ∨ m.pv.ownBlock = some k ∨ (∃ s, m.S s = some k) ∨ k ∈ m.pl
def pp (l : List Nat) : List Value := l.map fun g => .pointer (some ⟨g, 0, none⟩)
structure MemG (w : World) (M so : Nat) (fr sl : Int) (m : MS) : Prop where
  m0 : w.cell? ⟨M, 0, none⟩ = some (.int .i64 fr)
  m1 : w.cell? ⟨M, 1, none⟩ = some (.int .i64 sl)
  m2 : ∃ ck, w.cell? ⟨M, 2, none⟩ = some (.int .i64 ck)
  m3 : w.cell? ⟨M, 3, none⟩ = some m.pv
  m4 : w.cell? ⟨M, 4, none⟩ = some (.map (some so))
  mz : ∀ j, w.frozen? ⟨M, j, none⟩ = false
  mlt : M < w.heap.size
  ps : w.ownsRow 0 266 1 m.pv m.pl.length (pp m.pl)
  om : OMap w so m.nS m.S
  im : ∀ s b, m.S s = some b → IMap w b (m.nF b) (m.F b)
  pg : ∀ g, g ∈ m.pl → PgAt w g (m.d g) (m.u g) (m.h g)
  n1 : so ≠ M
  n2 : ∀ b, m.pv.ownBlock = some b → b ≠ M ∧ b ≠ so
  n3 : ∀ s b, m.S s = some b → b ≠ M ∧ b ≠ so ∧ m.pv.ownBlock ≠ some b
  n4 : ∀ g, g ∈ m.pl → g ≠ M ∧ g ≠ so ∧ m.pv.ownBlock ≠ some g ∧ ∀ s, m.S s ≠ some g
  n5 : ∀ s s' b, m.S s = some b → m.S s' = some b → s = s'
  nd : m.pl.Nodup
section
variable {w w' : World} {M so g : Nat} {fr sl : Int} {m : MS}
theorem OMap.upd {S : Nat → Prop} {b n : Nat} {f : Int → Option Nat} (h : OMap w b n f) (hu : Upd S w w') (hn : ¬ S b) : OMap w' b n f := by
  obtain ⟨D, hD, hm, hf⟩ := h
  obtain ⟨es, ck, hb, hrest⟩ := hD
  exact ⟨D, ⟨es, ck, (hu.block b (Array.getElem?_eq_some_iff.1 hb).1 hn).trans hb, hrest⟩, hm, hf⟩
theorem IMap.upd {S : Nat → Prop} {b n : Nat} {f : Int → Option (Nat × Int)} (h : IMap w b n f) (hu : Upd S w w') (hn : ¬ S b) : IMap w' b n f := by
  obtain ⟨D, hD, hm, hf⟩ := h
  obtain ⟨es, ck, hb, hrest⟩ := hD
  exact ⟨D, ⟨es, ck, (hu.block b (Array.getElem?_eq_some_iff.1 hb).1 hn).trans hb, hrest⟩, hm, hf⟩
theorem ob_ne {v : Value} {g k : Nat} (h : v.ownBlock ≠ some k) (e : v.ownBlock = some g) : g ≠ k := fun q => h (by rw [e, q])
theorem MemG.upd {S : Nat → Prop} (h : MemG w M so fr sl m) (hu : Upd S w w') (hn : ∀ k, mB M so m k → ¬ S k) : MemG w' M so fr sl m := by
  have hM := hn M (.inl rfl)
  have k : ∀ {o v}, w.cell? ⟨M, o, none⟩ = some v → w'.cell? ⟨M, o, none⟩ = some v := fun hc => (hu.cell h.mlt hM).trans hc
  obtain ⟨ck, hck⟩ := h.m2
  exact ⟨k h.m0, k h.m1, ⟨ck, k hck⟩, k h.m3, k h.m4, fun j => (hu.frozen h.mlt hM).trans (h.mz j), Nat.lt_of_lt_of_le h.mlt hu.size, hu.owns h.ps (fun g hg => hn g (.inr (.inr (.inl hg)))), h.om.upd hu (hn so (.inr (.inl rfl))), fun s b hs => (h.im s b hs).upd hu (hn b (.inr (.inr (.inr (.inl ⟨s, hs⟩))))), fun g hg => (h.pg g hg).upd hu (hn g (.inr (.inr (.inr (.inr hg))))), h.n1, h.n2, h.n3, h.n4, h.n5, h.nd⟩
theorem MemG.keep (h : MemG w M so fr sl m) (hb : Below w.heap.size w w') : MemG w' M so fr sl m := h.upd (S := fun _ => False) (Upd.below hb) (fun _ _ e => e)
theorem MemG.drew (h : MemG w M so fr sl m) : MemG w.drew M so fr sl m := h.keep (Below.refl _ _).drew
theorem MemG.lt (h : MemG w M so fr sl m) {k : Nat} (hk : mB M so m k) : k < w.heap.size := by
  rcases hk with rfl | rfl | e | ⟨s, hs⟩ | hg
  · exact h.mlt
  · obtain ⟨D, ⟨es, ck, hb, _⟩, _⟩ := h.om; exact (Array.getElem?_eq_some_iff.1 hb).1
  · exact (h.ps.lt k e).2
  · obtain ⟨D, ⟨es, ck, hb, _⟩, _⟩ := h.im s k hs; exact (Array.getElem?_eq_some_iff.1 hb).1
  · exact (h.pg k hg).lt
theorem MemG.page (h : MemG w M so fr sl m) (hg : g ∈ m.pl) (hu : Upd (fun k => k = g) w w') {d : Nat → Int} {u : Int} {q : Bool} (hp : PgAt w' g d u q) : MemG w' M so fr sl { m with d := fup m.d g d, u := fup m.u g u, h := fup m.h g q } := by
  obtain ⟨e1, e2, e3, e4⟩ := h.n4 g hg
  have hM : ¬ M = g := fun e => e1 e.symm
  have k : ∀ {o v}, w.cell? ⟨M, o, none⟩ = some v → w'.cell? ⟨M, o, none⟩ = some v := fun hc => (hu.cell h.mlt hM).trans hc
  obtain ⟨ck, hck⟩ := h.m2
  refine ⟨k h.m0, k h.m1, ⟨ck, k hck⟩, k h.m3, k h.m4, fun j => (hu.frozen h.mlt hM).trans (h.mz j), Nat.lt_of_lt_of_le h.mlt hu.size, hu.owns h.ps (fun b hb e => ob_ne e3 hb e), h.om.upd hu (fun e => e2 e.symm), fun s b hs => (h.im s b hs).upd hu (fun e => e4 s (by rw [hs, e])), fun j hj => ?_, h.n1, h.n2, h.n3, h.n4, h.n5, h.nd⟩
  by_cases e : j = g
  · subst e
    simp only [fup_same]
    exact hp
  · simp only [fup_off _ _ e]
    exact (h.pg j hj).upd hu e
theorem MemG.space (h : MemG w M so fr sl m) {s : Int} {b n : Nat} {f : Int → Option (Nat × Int)} (hs : m.S s = some b) (hu : Upd (fun k => k = b) w w') (hi : IMap w' b n f) : MemG w' M so fr sl { m with nF := fup m.nF b n, F := fup m.F b f } := by
  obtain ⟨e1, e2, e3⟩ := h.n3 s b hs
  have hM : ¬ M = b := fun e => e1 e.symm
  have k : ∀ {o v}, w.cell? ⟨M, o, none⟩ = some v → w'.cell? ⟨M, o, none⟩ = some v := fun hc => (hu.cell h.mlt hM).trans hc
  obtain ⟨ck, hck⟩ := h.m2
  refine ⟨k h.m0, k h.m1, ⟨ck, k hck⟩, k h.m3, k h.m4, fun j => (hu.frozen h.mlt hM).trans (h.mz j), Nat.lt_of_lt_of_le h.mlt hu.size, hu.owns h.ps (fun g hg e => ob_ne e3 hg e), h.om.upd hu (fun e => e2 e.symm), fun s' b' hs' => ?_, fun j hj => (h.pg j hj).upd hu (fun e => (h.n4 j hj).2.2.2 s (by rw [hs, e])), h.n1, h.n2, h.n3, h.n4, h.n5, h.nd⟩
  by_cases e : b' = b
  · subst e
    simp only [fup_same]
    exact hi
  · simp only [fup_off _ _ e]
    exact (h.im s' b' hs').upd hu e
theorem MemG.born (h : MemG w M so fr sl m) {s : Int} {b n c : Nat} {f : Int → Option (Nat × Int)} (h0 : m.S s = none) (hb : w.heap.size ≤ b) (hu : Upd (fun k => k = so) w w') (ho : OMap w' so n (fun k => if k = s then some b else m.S k)) (hi : IMap w' b c f) : MemG w' M so fr sl { m with nS := n, S := fun k => if k = s then some b else m.S k, nF := fup m.nF b c, F := fup m.F b f } := by
  have hM : ¬ M = so := fun e => h.n1 e.symm
  have k : ∀ {o v}, w.cell? ⟨M, o, none⟩ = some v → w'.cell? ⟨M, o, none⟩ = some v := fun hc => (hu.cell h.mlt hM).trans hc
  obtain ⟨ck, hck⟩ := h.m2
  have new : ∀ {j}, mB M so m j → j ≠ b := fun hj e => by have := h.lt hj; omega
  have at' : ∀ {s' b'}, (if s' = s then some b else m.S s') = some b' → (s' = s ∧ b' = b) ∨ (s' ≠ s ∧ m.S s' = some b' ∧ b' ≠ b) := fun {s' b'} e => by
    split at e
    · rename_i e'; injection e with e; exact .inl ⟨e', e.symm⟩
    · rename_i e'; exact .inr ⟨e', e, new (.inr (.inr (.inr (.inl ⟨s', e⟩))))⟩
  refine ⟨k h.m0, k h.m1, ⟨ck, k hck⟩, k h.m3, k h.m4, fun j => (hu.frozen h.mlt hM).trans (h.mz j), Nat.lt_of_lt_of_le h.mlt hu.size, hu.owns h.ps (fun g hg => (h.n2 g hg).2), ho, fun s' b' hs => ?_, fun g hg => (h.pg g hg).upd hu (h.n4 g hg).2.1, h.n1, h.n2, fun s' b' hs => ?_, fun g hg => ⟨(h.n4 g hg).1, (h.n4 g hg).2.1, (h.n4 g hg).2.2.1, fun s' e => ?_⟩, fun s1 s2 b' h1 h2 => ?_, h.nd⟩
  · rcases at' hs with ⟨-, rfl⟩ | ⟨-, q, e⟩
    · simp only [fup_same]; exact hi
    · simp only [fup_off _ _ e]; exact (h.im s' b' q).upd hu (h.n3 s' b' q).2.1
  · rcases at' hs with ⟨-, rfl⟩ | ⟨-, q, e⟩
    · exact ⟨fun e => new (.inl rfl) e.symm, fun e => new (.inr (.inl rfl)) e.symm, fun e => new (.inr (.inr (.inl e))) rfl⟩
    · exact h.n3 s' b' q
  · rcases at' e with ⟨-, q⟩ | ⟨-, q, _⟩
    · exact new (.inr (.inr (.inr (.inr hg)))) q
    · exact (h.n4 g hg).2.2.2 s' q
  · rcases at' h1 with ⟨q1, p1⟩ | ⟨q1, p1, r1⟩ <;> rcases at' h2 with ⟨q2, p2⟩ | ⟨q2, p2, r2⟩
    · rw [q1, q2]
    · exact absurd p1 r2
    · exact absurd p2 r1
    · exact h.n5 s1 s2 b' p1 p2
end
end Go.Proofs.YtlfemcbfclallaaGreatDoor
