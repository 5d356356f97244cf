/- The walks of package disk: Size, goes, Read. The walks of package disk: Flush. Whole rows, and parts of rows, by value: of any struct or array type. Walks of parts of a process's end and of its birth: open.Drop at no descriptors, wheel.Out at no timers, sig.Child, Send, Next. -/
import Derived.Test.YthioadiiedlmfaaGreatDoorBytes
import Derived.Deep.CutBlock
import Derived.StillTailTactics
import Derived.Deep.RegionHeld3
import Derived.IntWalk
import Derived.Deep.WholeRow
import Derived.Deep.MidRow
import Derived.Deep.Cut
import Derived.Deep.CutRange
import Derived.Deep.DeepCutAuto
import Derived.Deep.RegionWith
import Derived.ChangeKeysEq
import Derived.Test.YthioadiiedlmfaaGreatDoorBits
import Derived.Test.YthioadiiedlmfaaGreatDoorSigPlain
namespace Go.Proofs.YthioadiiedlmfaaGreatDoor
open Go.RowKit
set_option linter.unusedVariables false
set_option linter.unusedSimpArgs false
/-- block g holds just these bytes -/
def BK (w : World) (g : Nat) (l : List Int) : Prop := w.heap[g]? = some (.cells (l.map u8V).toArray 5 (0, 0))
theorem BK.lt {w : World} {g : Nat} {l : List Int} (h : BK w g l) : g < w.heap.size := (Array.getElem?_eq_some_iff.1 h).1
theorem BK.cell {w : World} {g : Nat} {l : List Int} (h : BK w g l) {i : Nat} (hi : i < l.length) : w.cell? ⟨g, i, none⟩ = some (u8V (l.getD i 0)) := by
  rw [cell_of_row w g i _ 5 (0, 0) h]
  simp [List.getD, hi]
theorem BK.keepB {w w' : World} {B g : Nat} {l : List Int} (h : BK w g l) (hb : Below B w w') (hB : g < B) : BK w' g l := (hb.block g hB).trans h
theorem BK.keep {w w' : World} {g : Nat} {l : List Int} (h : BK w g l) (hb : Below w.heap.size w w') : BK w' g l := h.keepB hb h.lt
theorem BK.kept {w w' : World} {g : Nat} {l : List Int} {row : Option Nat} (h : BK w g l) (hg : w.grownBy w' row) (hne : some g ≠ row) : BK w' g l := (hg.block g h.lt hne).trans h
theorem bk_new (w : World) (l : List Int) : BK (w.alloc (.cells (l.map u8V).toArray 5)) w.heap.size l := heap_alloc_new w _
/-- what a sector has -/
def sect (f : List Int) (k : Nat) : List Int := (f.drop (k * 64)).take 64
theorem sect_len {f : List Int} {k S : Nat} (hf : f.length = S * 64) (hk : k < S) : (sect f k).length = 64 := by
  unfold sect
  rw [List.length_take, List.length_drop, hf]
  omega
theorem sect_get {f : List Int} {k j : Nat} (hj : j < 64) : (sect f k).getD j 0 = f.getD (k * 64 + j) 0 := by
  simp [sect, List.getD_eq_getElem?_getD, List.getElem?_take, hj]
/-- A disk of S sectors: what lasts, what is read, what waits. -/
structure Dk (w : World) (D sb nb : Nat) (wv : Value) (m S : Nat) (s f : List Int) : Prop where
  c0 : w.cell? ⟨D, 0, none⟩ = some (.slice (some ⟨sb, 0, none⟩) (S * 64) (S * 64))
  c1 : w.cell? ⟨D, 1, none⟩ = some (.slice (some ⟨nb, 0, none⟩) (S * 64) (S * 64))
  c2 : w.cell? ⟨D, 2, none⟩ = some wv
  c3 : w.cell? ⟨D, 3, none⟩ = some (.int .i64 (-1))
  fz : ∀ j, w.frozen? ⟨D, j, none⟩ = false
  lt : D < w.heap.size
  sB : BK w sb s
  nB : BK w nb f
  ls : s.length = S * 64
  lf : f.length = S * 64
  own : ∃ xs, w.ownsRow 0 222 2 wv m xs
  n1 : D ≠ sb
  n2 : D ≠ nb
  n3 : sb ≠ nb
  o0 : wv.ownBlock ≠ some D
  o1 : wv.ownBlock ≠ some sb
  o2 : wv.ownBlock ≠ some nb
  S0 : 1 ≤ S
  S1 : S ≤ 256
section
variable {w w' : World} {D sb nb m S : Nat} {wv : Value} {s f : List Int}
theorem Dk.keep (h : Dk w D sb nb wv m S s f) (hb : Below w.heap.size w w') : Dk w' D sb nb wv m S s f := by
  have k : ∀ {o v}, w.cell? ⟨D, o, none⟩ = some v → w'.cell? ⟨D, o, none⟩ = some v := fun hc => (hb.cell (p := ⟨D, _, none⟩) h.lt).trans hc
  obtain ⟨xs, ho⟩ := h.own
  exact ⟨k h.c0, k h.c1, k h.c2, k h.c3, fun j => (hb.frozen (p := ⟨D, j, none⟩) h.lt).trans (h.fz j), Nat.lt_of_lt_of_le h.lt hb.size, h.sB.keep hb, h.nB.keep hb, h.ls, h.lf, ⟨xs, owns_keep ho hb⟩, h.n1, h.n2, h.n3, h.o0, h.o1, h.o2, h.S0, h.S1⟩
set_option maxRecDepth 100000 in
theorem goes_is (h : Dk w D sb nb wv m S s f) : Calls Tryz.prog 105 #[.pointer (some ⟨D, 0, none⟩)] w fun e w' => e = .returned (.bool true) ∧ w = w' := by
  have c3 := h.c3
  clear h
  go_enter Tryz.func105, Tryz.ntmps105
  go_wp2_with fail
  go_ret
  exact ⟨rfl, rfl⟩
set_option maxRecDepth 100000 in
theorem size_is (h : Dk w D sb nb wv m S s f) : Calls Tryz.prog 40 #[.pointer (some ⟨D, 0, none⟩)] w fun e w' => e = .returned (.int .i64 S) ∧ w = w' := by
  have c1 := h.c1
  have s1 := h.S1
  obtain ⟨n, hn⟩ : ∃ n, n = S * 64 := ⟨_, rfl⟩
  rw [← hn] at c1
  have q : (n : Int) / 64 = S := by omega
  have q2 : (n : Int).tdiv 64 = S := by rw [Int.tdiv_eq_ediv_of_nonneg (by omega)]; exact q
  have b0 : (n : Int) ≤ 16384 := by omega
  have y3 : IntKind.i64.wrap (S : Int) = S := IntWalk.i64_in _ (by omega)
  clear h hn
  go_enter Tryz.func40, Tryz.ntmps40
  go_wp2_with fail
  go_ret
  exact ⟨rfl, rfl⟩
set_option maxRecDepth 100000 in
set_option maxHeartbeats 400000 in
theorem read_is (h : Dk w D sb nb wv m S s f) {k : Nat} (hk : k < S) : Calls Tryz.prog 47 #[.pointer (some ⟨D, 0, none⟩), .int .i64 k] w fun e w' => ∃ v, e = .returned (.tuple #[v, .int .i64 0]) ∧ w'.ownsRow w.heap.size 5 1 v 64 ((sect f k).map u8V) ∧ Below w.heap.size w w' := by
  have c1 := h.c1
  have s1 := h.S1
  have HSZ := Lib.hid (size_is h)
  have hat : At (Value.int .u8) 0 w (.slice (some ⟨nb, k * 64, none⟩) 64 (S * 64 - k * 64)) (sect f k) := by
    have hl := sect_len h.lf hk
    refine ⟨_, _, by rw [hl], by omega, by unfold maxLen; omega, .inr ⟨nb, k * 64, rfl, h.nB.lt, fun i hi => ?_⟩⟩
    rw [hl] at hi
    rw [sect_get hi]
    exact h.nB.cell (by rw [h.lf]; omega)
  have HCL := Lib.hid (cloneB_is (by rw [sect_len h.lf hk]; omega) hat)
  have HLN := Lib.hid (sect_len h.lf hk)
  obtain ⟨n, hn⟩ : ∃ n, n = S * 64 := ⟨_, rfl⟩
  rw [← hn] at c1 HCL
  have i0 : ¬ (k : Int) < 0 := by omega
  have i1 : ¬ (S : Int) ≤ (k : Int) := by omega
  have b0 : (n : Int) ≤ 16384 := by omega
  have b1 : (k : Int) * 64 + 64 ≤ n := by omega
  have HN := Lib.hid hn
  clear h hat hn
  go_enter Tryz.func47, Tryz.ntmps47
  go_upto_region 3 with (go_at_call 40; refine HSZ.out.mono ?_; rintro e1 w1 ⟨rfl, rfl⟩)
  go_wp2_with (go_at_call 106; rw [show (k + 1) * 64 - k * 64 = 64 by omega]; refine HCL.out.mono ?_; rintro e2 w2 ⟨v2, rfl, ho2, hb2⟩; rw [HLN.out] at ho2)
  go_ret2
  exact ⟨v2, rfl, ho2, hb2⟩
end
end Go.Proofs.YthioadiiedlmfaaGreatDoor
namespace Go.Proofs.YthioadiiedlmfaaGreatDoor
open Go.RowKit
set_option linter.unusedVariables false
set_option linter.unusedSimpArgs false
def copyB := Builtin.copy_ #[28, 28] 3
theorem copyB_eq : Builtin.copy_ #[28, 28] 3 = copyB := rfl
theorem BK.setRow {w : World} {g : Nat} {l : List Int} (h : BK w g l) (l' : List Int) : BK (w.setRow g (l'.map u8V).toArray) g l' := setRow_heap w g _ _ 5 _ h
/-- bytes are copied into a block -/
theorem run_copyB {w : World} {g o dL dC sL sC sb so : Nat} {cur cs : List Int} (hg : BK w g cur) (hn : cs.length = Nat.min sL dL) (hs : ∀ i, i < cs.length → w.cell? ⟨sb, so + i, none⟩ = some (u8V (cs.getD i 0))) (hf : o + cs.length ≤ cur.length) :
    (copyB #[.slice (some ⟨g, o, none⟩) dL dC, .slice (some ⟨sb, so, none⟩) sL sC]).run Tryz.prog w = .ok (.int .i64 cs.length) (w.setRow g ((splice cur o cs).map u8V).toArray) := by
  have h := run_copy_row (P := Tryz.prog) w 28 28 3 5 g o dL dC ⟨sb, so, none⟩ sL sC (cur.map u8V).toArray 5 (cs.map u8V) Tryz.underlying28 (by kernel_rfl) hg (by simpa using hn) (cells_u8 hs) (by simpa using hf) (u8V_one cs)
  have e : ((cur.map u8V).toArray.toList.take o ++ cs.map u8V ++ (cur.map u8V).toArray.toList.drop (o + (cs.map u8V).length)).toArray = ((splice cur o cs).map u8V).toArray := by
    simp [splice, List.map_take, List.map_drop]
  rw [e] at h
  rw [← copyB_eq, h]
  simp [goInt]
def Dset (D sb nb : Nat) (wv : Value) : Nat → Prop := fun k => k = D ∨ k = sb ∨ k = nb ∨ wv.ownBlock = some k
theorem BK.upd {S : Nat → Prop} {w w' : World} {g : Nat} {l : List Int} (h : BK w g l) (hu : Upd S w w') (hn : ¬ S g) : BK w' g l := (hu.block g h.lt hn).trans h
section
variable {w w' : World} {D sb nb m S : Nat} {wv : Value} {s f : List Int}
theorem Dk.flushed (h : Dk w D sb nb wv m S s f) : Dk ((w.drew.setRow sb (f.map u8V).toArray).setCell ⟨D, 2, none⟩ (.slice none 0 0)) D sb nb (.slice none 0 0) 0 S f f := by
  have u1 : Upd (fun k => k = sb) w (w.drew.setRow sb (f.map u8V).toArray) := (Upd.drew w).trans (Upd.setRow w.drew _ rfl)
  have k : ∀ {o v}, w.cell? ⟨D, o, none⟩ = some v → (w.drew.setRow sb (f.map u8V).toArray).cell? ⟨D, o, none⟩ = some v := fun hc => (u1.cell h.lt h.n1).trans hc
  have u2 : Upd (fun k => k = D) (w.drew.setRow sb (f.map u8V).toArray) ((w.drew.setRow sb (f.map u8V).toArray).setCell ⟨D, 2, none⟩ (.slice none 0 0)) := Upd.set _ _ rfl
  refine ⟨set_off (by decide) (k h.c0), set_off (by decide) (k h.c1), set_same (k h.c2), set_off (by decide) (k h.c3), fun j => ?_, ?_, ?_, ?_, h.lf, h.lf, ⟨[], World.ownsRow_nil _ _ _ _⟩, h.n1, h.n2, h.n3, by simp [Value.ownBlock], by simp [Value.ownBlock], by simp [Value.ownBlock], h.S0, h.S1⟩
  · rw [World.frozen?_setCell]; exact (u1.frozen h.lt h.n1).trans (h.fz j)
  · exact Nat.lt_of_lt_of_le h.lt (Nat.le_trans u1.size u2.size)
  · have : BK w.drew sb s := h.sB
    exact (this.setRow f).upd u2 (fun e => h.n1 e.symm)
  · exact (h.nB.upd u1 (fun e => h.n3 e.symm)).upd u2 (fun e => h.n2 e.symm)
attribute [local go_sem ↓] copyB_eq
set_option maxRecDepth 100000 in
set_option maxHeartbeats 400000 in
theorem flush_is (h : Dk w D sb nb wv m S s f) : Calls Tryz.prog 46 #[.pointer (some ⟨D, 0, none⟩)] w fun e w' => e = .returned (.tuple #[]) ∧ Dk w' D sb nb (.slice none 0 0) 0 S f f ∧ Upd (fun k => k = D ∨ k = sb) w w' := by
  have c0 := h.c0
  have c1 := h.c1
  have c2 := h.c2
  have fz : (w.drew.setRow sb (f.map u8V).toArray).frozen? ⟨D, 2, none⟩ = false := (((Upd.drew (S := fun k => k = sb) w).trans (Upd.setRow w.drew _ rfl)).frozen h.lt h.n1).trans (h.fz 2)
  have c2' : (w.drew.setRow sb (f.map u8V).toArray).cell? ⟨D, 2, none⟩ = some wv := (((Upd.drew (S := fun k => k = sb) w).trans (Upd.setRow w.drew _ rfl)).cell h.lt h.n1).trans c2
  have HGO := Lib.hid (goes_is h)
  have HFL := Lib.hid h.flushed
  have HUP := Lib.hid (((Upd.drew (S := fun k => k = D ∨ k = sb) w).trans (Upd.setRow w.drew (f.map u8V).toArray (.inr rfl))).trans (Upd.set (i := 2) _ (.slice none 0 0) (.inl rfl)))
  have hcp : (copyB #[.slice (some ⟨sb, 0, none⟩) (S * 64) (S * 64), .slice (some ⟨nb, 0, none⟩) (S * 64) (S * 64)]).run Tryz.prog w.drew = .ok (.int .i64 ((S * 64 : Nat) : Int)) (w.drew.setRow sb (f.map u8V).toArray) := by
    have := run_copyB (w := w.drew) (g := sb) (o := 0) (dL := S * 64) (dC := S * 64) (sL := S * 64) (sC := S * 64) (sb := nb) (so := 0) (cur := s) (cs := f) h.sB (by rw [h.lf]; exact (Nat.min_self _).symm) (fun i hi => by rw [Nat.zero_add]; exact h.nB.cell hi) (by rw [h.lf, h.ls]; omega)
    have e : splice s 0 f = f := by
      have e1 := h.lf
      have e2 := h.ls
      simp [splice]
      omega
    rw [e, h.lf] at this
    exact this
  obtain ⟨n, hn⟩ : ∃ n, n = S * 64 := ⟨_, rfl⟩
  have b0 : (n : Int) ≤ 16384 := by have := h.S1; omega
  rw [← hn] at c0 c1 hcp
  generalize w.drew.setRow sb (f.map u8V).toArray = w1 at *
  clear h hn
  go_enter Tryz.func46, Tryz.ntmps46
  go_upto_region 1 with (go_at_call 105; refine HGO.out.mono ?_; rintro e1 w1 ⟨rfl, rfl⟩)
  go_region
  go_wp2_with fail
  (try simp only [Exit.inBlock, Exit.then]); first | (refine bodyPost_ret (results_none rfl _ _ _) rfl ?_) | (refine bodyPost_end (results_none rfl _ _ _) rfl ?_)
  exact ⟨rfl, HFL.out, HUP.out⟩
end
end Go.Proofs.YthioadiiedlmfaaGreatDoor
namespace Go.Proofs.YthioadiiedlmfaaGreatDoor
open Go.RowKit
set_option linter.unusedVariables false
set_option linter.unusedSimpArgs false
/-- names for loads and stores of whole rows: the walk doesn't open them -/
def ldR (T : Nat) (v : Value) : Sem Value := Instr.loadAt T v
def stR (T : Nat) (p v : Value) : Sem Unit := Instr.storeAt T p v
def ixR (T : Nat) (v i : Value) : Sem Value := Instr.index T v i
def bdR (T : Nat) (ps : Array (Nat × Value)) : Sem Value := Instr.build T ps
/-- a whole row in block b -/
def Row (w : World) (b : Nat) (T : Nat) (c : Array Value) : Prop := w.heap[b]? = some (.cells c T (0, 0))
/-- c with cs from o on -/
def putA (c : Array Value) (o : Nat) (cs : List Value) : Array Value := (c.toList.take o ++ cs ++ c.toList.drop (o + cs.length)).toArray
theorem putA_size {c : Array Value} {o : Nat} {cs : List Value} (h : o + cs.length ≤ c.size) : (putA c o cs).size = c.size := by
  simp [putA]; omega
theorem putA_get {c : Array Value} {o : Nat} {cs : List Value} (h : o + cs.length ≤ c.size) (j : Nat) : (putA c o cs)[j]? = if o ≤ j ∧ j < o + cs.length then cs[j - o]? else c[j]? := by
  simp only [putA, List.getElem?_toArray]
  split
  · rename_i hj
    rw [List.append_assoc, List.getElem?_append_right (by simp; omega), List.getElem?_append_left (by simp; omega)]
    simp
    congr 1
    omega
  · rename_i hj
    by_cases h1 : j < o
    · rw [List.append_assoc, List.getElem?_append_left (by simp; omega)]
      simp [List.getElem?_take, h1]
    · rw [List.getElem?_append_right (by simp; omega)]
      simp [List.getElem?_drop]
      congr 1
      omega
theorem putA_set {c : Array Value} {o : Nat} {v : Value} {cs : List Value} (h : o + 1 + cs.length ≤ c.size) : putA (c.setIfInBounds o v) (o + 1) cs = putA c o (v :: cs) := by
  apply Array.ext_getElem?
  intro j
  rw [putA_get (by simp; omega), putA_get (by simp; omega)]
  simp only [List.length_cons, Array.getElem?_setIfInBounds]
  by_cases h0 : j = o
  · subst h0
    rw [if_neg (by omega), if_pos rfl, if_pos (by omega), if_pos (by omega)]
    simp
  · by_cases h1 : o + 1 ≤ j ∧ j < o + 1 + cs.length
    · rw [if_pos h1, if_pos (by omega), show j - o = (j - (o + 1)) + 1 by omega]
      simp
    · rw [if_neg h1, if_neg (fun e => h0 e.symm), if_neg (by omega)]
section
variable {w w' : World} {b T : Nat} {c : Array Value}
theorem Row.lt (h : Row w b T c) : b < w.heap.size := (Array.getElem?_eq_some_iff.1 h).1
theorem Row.keepB {B : Nat} (h : Row w b T c) (hb : Below B w w') (hB : b < B) : Row w' b T c := (hb.block b hB).trans h
theorem Row.keep (h : Row w b T c) (hb : Below w.heap.size w w') : Row w' b T c := h.keepB hb h.lt
theorem Row.upd {S : Nat → Prop} (h : Row w b T c) (hu : Upd S w w') (hn : ¬ S b) : Row w' b T c := (hu.block b h.lt hn).trans h
theorem Row.kept {row : Option Nat} (h : Row w b T c) (hg : w.grownBy w' row) (hne : some b ≠ row) : Row w' b T c := (hg.block b h.lt hne).trans h
theorem Row.alloc (h : Row w b T c) (o : Obj) : Row (w.alloc o) b T c := h.keep ((Below.refl _ _).alloc (Nat.le_refl _) o)
theorem Row.drew (h : Row w b T c) : Row w.drew b T c := h
theorem Row.drewN (h : Row w b T c) (n : Nat) : Row (w.drewN n) b T c := h
theorem Row.cell (h : Row w b T c) (i : Nat) : w.cell? ⟨b, i, none⟩ = c[i]? := cell_of_row w b i _ T (0, 0) h
theorem Row.fz (h : Row w b T c) (i : Nat) : w.frozen? ⟨b, i, none⟩ = false := by
  unfold Row at h
  simp [World.frozen?, h]
theorem row_new (w : World) (T : Nat) (c : Array Value) : Row (w.alloc (.cells c T)) w.heap.size T c := heap_alloc_new w _
theorem Row.setRow (h : Row w b T c) (c' : Array Value) : Row (w.setRow b c') b T c' := setRow_heap w b _ _ T _ h
theorem Row.setRowO (h : Row w b T c) {d : Nat} (hd : d ≠ b) (c' : Array Value) : Row (w.setRow d c') b T c := (setRow_other w d b c' (fun e => hd e.symm)).trans h
theorem Row.setCell (h : Row w b T c) (i : Nat) (v : Value) : w.setCell ⟨b, i, none⟩ v = w.setRow b (c.setIfInBounds i v) := setCell_eq_setRow w b i c T (0, 0) v h
theorem Row.setCells : ∀ (cs : List Value) {w : World} {c : Array Value} {o : Nat}, Row w b T c → o + cs.length ≤ c.size → w.setCells b o cs = w.setRow b (putA c o cs)
  | [], w, c, o, h, _ => by
    have e : putA c o [] = c := by simp [putA]
    rw [e]
    exact (setRow_self w b c T (0, 0) h).symm
  | v :: cs, w, c, o, h, hl => by
    rw [World.setCells, h.setCell o v, Row.setCells cs (h.setRow _) (by simp at hl ⊢; omega), setRow_setRow, putA_set (by simp at hl; omega)]
theorem Row.range (h : Row w b T c) (o n : Nat) : w.rangeAt b o (c.extract o (o + n)).toList := World.rangeAt_of_block h o n
theorem Row.there (h : Row w b T c) {o n : Nat} (hn : o + n ≤ c.size) : w.there b o n := fun j hj => ⟨by rw [h.cell]; simp; omega, h.fz _⟩
/-- a part of a row by value -/
theorem Row.ld (h : Row w b T c) {o n U : Nat} {d : TypeDesc} (hn : o + n ≤ c.size) (hu : Tryz.prog.underlying U = some d) (hd : d.isRow = true) (hi : (Tryz.prog.info? U).map (·.size) = some n) :
    (ldR U (.pointer (some ⟨b, o, none⟩))).run Tryz.prog w = .ok (.agg (c.extract o (o + n))) w := by
  have := run_loadAt_mid (P := Tryz.prog) w b o U _ d (h.range o n) hu hd (by rw [hi]; simp; omega)
  rw [Array.toArray_toList] at this
  exact this
/-- all of it -/
theorem Row.ld0 (h : Row w b T c) {d : TypeDesc} (hu : Tryz.prog.underlying T = some d) (hd : d.isRow = true) (hi : (Tryz.prog.info? T).map (·.size) = some c.size) :
    (ldR T (.pointer (some ⟨b, 0, none⟩))).run Tryz.prog w = .ok (.agg c) w := by
  have := h.ld (o := 0) (n := c.size) (by omega) hu hd hi
  simpa using this
theorem Row.ldV (h : Row w b T c) {d : TypeDesc} (hu : Tryz.prog.underlying T = some d) (hd : d.isRow = true) (hi : (Tryz.prog.info? T).map (·.size) = some c.size) : (loadVar T ⟨b, 0, none⟩).run Tryz.prog w = .ok (.agg c) w := by
  have := run_loadVar_mid (P := Tryz.prog) w b 0 T _ d (h.range 0 c.size) hu hd (by rw [hi]; simp)
  rw [Array.toArray_toList] at this
  simpa using this
theorem Row.st (h : Row w b T c) {o U : Nat} {cs : Array Value} (hn : o + cs.size ≤ c.size) (hi : (Tryz.prog.info? U).map (·.size) = some cs.size) (h1 : cs.all (·.oneCell') = true) :
    (stR U (.pointer (some ⟨b, o, none⟩)) (.agg cs)).run Tryz.prog w = .ok () (w.setRow b (putA c o cs.toList)) := by
  rw [← h.setCells cs.toList (by simpa using hn)]
  exact run_storeAt_mid w b o U cs (h.there hn) hi h1
theorem Row.st0 (h : Row w b T c) {cs : Array Value} (hn : cs.size = c.size) (hi : (Tryz.prog.info? T).map (·.size) = some cs.size) (h1 : cs.all (·.oneCell') = true) :
    (stR T (.pointer (some ⟨b, 0, none⟩)) (.agg cs)).run Tryz.prog w = .ok () (w.setRow b cs) := by
  have := h.st (o := 0) (U := T) (cs := cs) (by omega) hi h1
  rw [this]
  have e : putA c 0 cs.toList = cs := ?_
  · rw [e]
  apply Array.ext_getElem?
  intro j
  rw [putA_get (by simp; omega)]
  simp only [Nat.zero_le, true_and, Nat.zero_add, Nat.sub_zero, Array.length_toList, Array.getElem?_toList]
  split
  · rfl
  · rw [Array.getElem?_eq_none (by omega), Array.getElem?_eq_none (by omega)]
end
theorem results_cell1 {fn : Func} {p : Tmp} {ty : TypeId} (h : fn.results = #[.cell p ty]) (tmps : Array Value) (P : Program) (w : World) :
    (results fn tmps).run P w = ((asAddr (tmps.getD p undef)).run P w).andThen fun a w1 => (loadVar ty a).run P w1 := by
  unfold results
  rw [h]
  simp
theorem results_cell_tmp {fn : Func} {p u : Tmp} {ty : TypeId} (h : fn.results = #[.cell p ty, .tmp u]) (tmps : Array Value) (P : Program) (w : World) :
    (results fn tmps).run P w = ((asAddr (tmps.getD p undef)).run P w).andThen fun a w1 => ((loadVar ty a).run P w1).andThen fun v w2 => .ok (.tuple #[v, tmps.getD u undef]) w2 := by
  unfold results
  rw [h]
  simp
theorem results_tmp4 {fn : Func} {t u x y : Tmp} (h : fn.results = #[.tmp t, .tmp u, .tmp x, .tmp y]) (tmps : Array Value) (P : Program) (w : World) :
    (results fn tmps).run P w = .ok (.tuple #[tmps.getD t undef, tmps.getD u undef, tmps.getD x undef, tmps.getD y undef]) w := by
  unfold results
  rw [h]
  simp
theorem st0_new (w : World) {T : Nat} {c cs : Array Value} (hn : cs.size = c.size) (hi : (Tryz.prog.info? T).map (·.size) = some cs.size) (h1 : cs.all (·.oneCell') = true) :
    (stR T (.pointer (some ⟨w.heap.size, 0, none⟩)) (.agg cs)).run Tryz.prog (w.alloc (.cells c T)) = .ok () (w.alloc (.cells cs T)) := by
  rw [(row_new w T c).st0 hn hi h1, World.setRow_alloc_new]
end Go.Proofs.YthioadiiedlmfaaGreatDoor
namespace Go.Proofs.YthioadiiedlmfaaGreatDoor.OpenLaw
open Go.RowKit
set_option linter.unusedVariables false
set_option linter.unusedSimpArgs false
def z5 : Array Value := #[.int .i64 0, .int .i64 0, .int .i64 0, .bool false, .int .i64 0]
set_option maxRecDepth 100000 in
set_option maxHeartbeats 400000 in
theorem close_none {w : World} {b p j : Nat} {fs : Nat → F} {fd : Nat → Nat} (h : OTab w b fs fd) (h1 : 1 ≤ p) (h2 : p ≤ 16) (hj : j < 8) (hx : fd (p * 8 + j) = 0) : Calls Tryz.prog 78 #[.pointer (some ⟨b, 0, none⟩), .int .i64 p, .int .i64 j] w fun e w' => e = .returned (.tuple #[.agg z5, .bool false, .int .i64 4]) ∧ Below w.heap.size w w' := by
  have HF := Lib.hid (find_none (h.alloc (.cells z5 160)) h1 h2 hj hx)
  have HH := Lib.hid (h.alloc (.cells z5 160))
  have HB := Lib.hid (Go.Joins.below_alloc1 w (.cells z5 160))
  have HR := Lib.hid (has_new w [.int .i64 0, .int .i64 0, .int .i64 0, .bool false, .int .i64 0] 160)
  have HZ := Lib.hid (fun i => frozen_new w z5 160 i)
  clear hx h h1 h2 hj
  go_enter Tryz.func78, Tryz.ntmps78
  go_wp2_with fail
  refine HF.out.mono ?_
  rintro e w1 ⟨rfl, hb1⟩
  have R := HR.out.keep hb1
  have r0 := R.2 0 _ rfl
  have r1 := R.2 1 _ rfl
  have r2 := R.2 2 _ rfl
  have r3 := R.2 3 _ rfl
  have r4 := R.2 4 _ rfl
  have z : ∀ i, w1.frozen? ⟨w.heap.size, i, none⟩ = false := fun i => (hb1.frozen (p := ⟨w.heap.size, i, none⟩) (by simp)).trans (HZ.out i)
  have HK := Lib.hid (Below.trans HB.out (hb1.mono (by simp)))
  clear R hb1
  go_wp2
  refine bodyPost_ret (v := .tuple #[.agg z5, .bool false, .int .i64 4]) (by rw [results_cell3 rfl]; go_simp; (try rfl)) rfl ⟨rfl, ?_⟩
  exact ((((HK.out.setCell (p := ⟨_, _, none⟩) (Nat.le_refl _) _).setCell (p := ⟨_, _, none⟩) (Nat.le_refl _) _).setCell (p := ⟨_, _, none⟩) (Nat.le_refl _) _).setCell (p := ⟨_, _, none⟩) (Nat.le_refl _) _).setCell (p := ⟨_, _, none⟩) (Nat.le_refl _) _
set_option maxRecDepth 100000 in
set_option maxHeartbeats 400000 in
theorem dropE_is {w : World} {b p : Nat} {fs : Nat → F} {fd : Nat → Nat} (h : OTab w b fs fd) (h1 : 1 ≤ p) (h2 : p ≤ 16) (hz : ∀ j, j < 8 → fd (p * 8 + j) = 0) : Calls Tryz.prog 70 #[.pointer (some ⟨b, 0, none⟩), .int .i64 p] w fun e w' => e = .returned (.tuple #[.slice none 0 0, .int .i64 0]) ∧ Below w.heap.size w w' := by
  have HO := Lib.hid (owner_is h1 h2 w)
  have HH := Lib.hid h
  have HC := Lib.hid (fun (w0 : World) (t : OTab w0 b fs fd) (j : Nat) (hj : j < 8) => close_none t h1 h2 hj (hz j hj))
  clear h hz
  go_enter Tryz.func70, Tryz.ntmps70
  go_upto_region 4 with (go_at_call 143; refine HO.out.mono ?_; rintro e w1 ⟨rfl, rfl⟩)
  go_wp2_with fail
  go_loopw [6, 14] (fun lv iv wr => ∃ k : Nat, k ≤ 8 ∧ iv = .int .i64 k ∧ lv = .slice none 0 0 ∧ Hid (Below w.heap.size w wr)) (fun _ iv _ => 8 - (intOf iv).toNat)
  case atStart => exact ⟨0, by omega, rfl, rfl, Lib.hid (Below.refl _ _)⟩
  case round =>
    obtain ⟨k, hk, rfl, rfl, HB⟩ := hrel
    by_cases hlt : k < 8
    · have hki : (k : Int) < 8 := by omega
      have HCL := Lib.hid (HC.out wr (HH.out.keep HB.out) k hlt)
      clear hlt
      go_wp2_with (go_at_call 78; refine HCL.out.mono ?_; rintro e3 w3 ⟨rfl, hb3⟩; have HB3 := Lib.hid (HB.out.trans (hb3.mono HB.out.size)); clear hb3; unfold z5)
      have HB4 : Hid (Below w.heap.size w (w3.alloc (.cells z5 160))) := Lib.hid (HB3.out.trans ((Go.Joins.below_alloc1 w3 _).mono HB3.out.size))
      go_roundw
      case rel => exact ⟨k + 1, by omega, by go_num, rfl, HB4⟩
      case measure => simp [intOf]; omega
    · obtain rfl : k = 8 := by omega
      go_wp2_with fail
      go_ret2
      exact ⟨rfl, HB.out⟩
end Go.Proofs.YthioadiiedlmfaaGreatDoor.OpenLaw
namespace Go.Proofs.YthioadiiedlmfaaGreatDoor.SigLaw
set_option linter.unusedSimpArgs false
open Go.RowKit
set_option linter.unusedVariables false
attribute [local go_sem ↓] load58_eq store58_eq zero58 cells58
theorem zeroG_bb : BB zeroG := ⟨⟨by decide, by decide⟩, by decide, by decide⟩
theorem zeroG_right : Right zeroG 0 0 := by constructor <;> first | rfl | decide | (intro i hi; simp [zeroG])
theorem zeroG_good : good zeroG := ⟨0, 0, zeroG_right⟩
set_option maxRecDepth 100000 in
set_option maxHeartbeats 1000000 in
theorem child_is (w : World) : Calls Tryz.prog 177 #[.agg (cellsA zeroG), .bool false] w fun e w' => e = .returned (.tuple #[.agg (cellsA zeroG), .int .i64 0]) ∧ Below w.heap.size w w' := by
  have HC := Lib.hid (check_b zeroG ((w.alloc (.cells (cellsA zeroG) 57)).alloc (.cells (cellsA zeroG) 57)) zeroG_bb)
  have HT := Lib.hid (two_new w zeroG)
  have hl := (two_new w zeroG).R.load
  go_enter Tryz.func177, Tryz.ntmps177
  go_wp2_with fail
  refine HC.out.mono ?_
  rintro e w1 ⟨en, rfl, hb1, hcase⟩
  have HT1 := Lib.hid (HT.out.keep hb1)
  clear hb1 hl HC HT
  rcases hcase with ⟨rfl, -⟩ | ⟨-, hg⟩
  · have HT2 : Hid (Two w (w1.setCell ⟨w.heap.size, 0, none⟩ (.int .i64 0)) w.heap.size (w.heap.size + 1) zeroG zeroG) := Lib.hid (HT1.out.setP 0)
    have c0 := HT1.out.R.c0
    have f0 := HT1.out.R.fz 0
    have hl := HT2.out.R.load
    have hz := HT2.out.Z.store zeroG
    go_wp2
    exact bodyPost_ret (v := .tuple #[.agg (cellsA zeroG), .int .i64 0]) (by rw [results_cell_tmp rfl]; simp [asAddr, Result.andThen, (HT2.out.store zeroG).Z.loadVar]) rfl ⟨rfl, (HT2.out.store zeroG).B⟩
  · exact absurd zeroG_good hg
/-- a child's end makes nothing of a set without signals -/
theorem send7_is (w : World) : Calls Tryz.prog 149 #[.agg (cellsA zeroG), .int .i64 7] w fun e w' => e = .returned (.tuple #[.agg (cellsA zeroG), .int .i64 0]) ∧ Below w.heap.size w w' := by
  refine (send_is zeroG 7 w zeroG_bb).mono ?_
  rintro e w' ⟨en, g', rfl, hb, ⟨rfl, k, P, M, hk, h1, h2, hr, rfl⟩ | ⟨-, -, hn⟩⟩
  · obtain rfl : k = 7 := by omega
    have hP : P = 0 := by have := hr.p; simp [zeroG] at this; omega
    subst hP
    have : sentP zeroG 0 7 = 0 := sentP_pos (.inr ⟨rfl, rfl⟩)
    rw [this]
    exact ⟨rfl, hb⟩
  · exact absurd ⟨zeroG_good, by decide, by decide⟩ hn
end Go.Proofs.YthioadiiedlmfaaGreatDoor.SigLaw
namespace Go.Proofs.YthioadiiedlmfaaGreatDoor
open Go.RowKit
set_option linter.unusedVariables false
set_option linter.unusedSimpArgs false
def whA : Array Value := #[.int .u32 0, .slice none 0 0]
set_option maxRecDepth 100000 in
set_option maxHeartbeats 400000 in
theorem idx0_is (w : World) (c : Addr) : Calls Tryz.prog 221 #[.slice none 0 0, .func (.func 222) #[] #[.pointer (some c)]] w fun e w' => e = .returned (.int .i64 (-1)) ∧ w = w' := by
  go_enter Tryz.func221, Tryz.ntmps221
  go_wp2_with fail
  refine wp_loop_rounds 1 ?_
  rw [rounds_succ]
  go_wp2_with fail
  go_ret
  exact ⟨rfl, rfl⟩
set_option maxRecDepth 100000 in
set_option maxHeartbeats 400000 in
theorem wfind0_is {w : World} {Wh : Nat} {nw : Value} (h : Row w Wh 158 #[nw, .slice none 0 0]) (p : Int) : Calls Tryz.prog 147 #[.pointer (some ⟨Wh, 0, none⟩), .int .i64 p] w fun e w' => e = .returned (.int .i64 (-1)) ∧ Below w.heap.size w w' := by
  have hmf : ∀ (fn : Fn) (first cap : Array Value) (w : World), (Instr.makeFunc fn first cap).run Tryz.prog w = .ok (.func fn first cap) w := fun _ _ _ _ => rfl
  have hal := Go.Joins.below_alloc1 w (.cells #[.int .i64 p] 3)
  have c1 : (w.alloc (.cells #[.int .i64 p] 3)).cell? ⟨Wh, 1, none⟩ = some (.slice none 0 0) := by rw [(h.keep hal).cell]; rfl
  have HI := Lib.hid (idx0_is (w.alloc (.cells #[.int .i64 p] 3)) ⟨w.heap.size, 0, none⟩)
  have HB := Lib.hid hal
  clear h hal
  go_enter Tryz.func147, Tryz.ntmps147
  go_wp2_with (go_at_call 221; refine HI.out.mono ?_; rintro e1 w1 ⟨rfl, rfl⟩)
  go_ret
  exact ⟨rfl, HB.out⟩
set_option maxRecDepth 100000 in
set_option maxHeartbeats 400000 in
theorem wout0_is {w : World} {Wh : Nat} {nw : Value} (h : Row w Wh 158 #[nw, .slice none 0 0]) (p : Int) : Calls Tryz.prog 74 #[.pointer (some ⟨Wh, 0, none⟩), .int .i64 p] w fun e w' => e = .returned (.int .i64 4) ∧ Below w.heap.size w w' := by
  have HF := Lib.hid (wfind0_is h p)
  clear h
  go_enter Tryz.func74, Tryz.ntmps74
  go_wp2_with (go_at_call 147; refine HF.out.mono ?_; rintro e1 w1 ⟨rfl, hb1⟩; have HB1 := Lib.hid hb1; clear hb1)
  go_ret
  exact ⟨rfl, HB1.out⟩
end Go.Proofs.YthioadiiedlmfaaGreatDoor
