/- The walks of package disk: Size, goes, Read. The walks of package disk: Flush. The walks of package disk: Write. Byte slices of a call's own: appends as equations on the operation's run. The walk of ringtop.rvWords: instructions as bytes. -/
import Derived.Test.YtnbhohaphmilmaaGreatDoorBytes
import Derived.Deep.CutBlock
import Derived.StillTailTactics
import Derived.Deep.RegionHeld3
import Derived.IntWalk
import Derived.OwnWalk
import Derived.Lib.BufferWrite
namespace Go.Proofs.YtnbhohaphmilmaaGreatDoor
open Go.RowKit
set_option linter.unusedVariables false
set_option linter.unusedSimpArgs false
/-- block g holds just these bytes -/
def BK (w : World) (g : Nat) (l : List Int) : Prop := w.heap[g]? = some (.cells (l.map u8V).toArray 5 (0, 0))
theorem BK.lt {w : World} {g : Nat} {l : List Int} (h : BK w g l) : g < w.heap.size := (Array.getElem?_eq_some_iff.1 h).1
theorem BK.cell {w : World} {g : Nat} {l : List Int} (h : BK w g l) {i : Nat} (hi : i < l.length) : w.cell? ⟨g, i, none⟩ = some (u8V (l.getD i 0)) := by
  rw [cell_of_row w g i _ 5 (0, 0) h]
  simp [List.getD, hi]
theorem BK.keepB {w w' : World} {B g : Nat} {l : List Int} (h : BK w g l) (hb : Below B w w') (hB : g < B) : BK w' g l := (hb.block g hB).trans h
theorem BK.keep {w w' : World} {g : Nat} {l : List Int} (h : BK w g l) (hb : Below w.heap.size w w') : BK w' g l := h.keepB hb h.lt
theorem BK.kept {w w' : World} {g : Nat} {l : List Int} {row : Option Nat} (h : BK w g l) (hg : w.grownBy w' row) (hne : some g ≠ row) : BK w' g l := (hg.block g h.lt hne).trans h
theorem bk_new (w : World) (l : List Int) : BK (w.alloc (.cells (l.map u8V).toArray 5)) w.heap.size l := heap_alloc_new w _
/-- what a sector has -/
def sect (f : List Int) (k : Nat) : List Int := (f.drop (k * 64)).take 64
theorem sect_len {f : List Int} {k S : Nat} (hf : f.length = S * 64) (hk : k < S) : (sect f k).length = 64 := by
  unfold sect
  rw [List.length_take, List.length_drop, hf]
  omega
theorem sect_get {f : List Int} {k j : Nat} (hj : j < 64) : (sect f k).getD j 0 = f.getD (k * 64 + j) 0 := by
  simp [sect, List.getD_eq_getElem?_getD, List.getElem?_take, hj]
/-- A disk of S sectors: what lasts, what is read, what waits. -/
structure Dk (w : World) (D sb nb : Nat) (wv : Value) (m S : Nat) (s f : List Int) : Prop where
  c0 : w.cell? ⟨D, 0, none⟩ = some (.slice (some ⟨sb, 0, none⟩) (S * 64) (S * 64))
  c1 : w.cell? ⟨D, 1, none⟩ = some (.slice (some ⟨nb, 0, none⟩) (S * 64) (S * 64))
  c2 : w.cell? ⟨D, 2, none⟩ = some wv
  c3 : w.cell? ⟨D, 3, none⟩ = some (.int .i64 (-1))
  fz : ∀ j, w.frozen? ⟨D, j, none⟩ = false
  lt : D < w.heap.size
  sB : BK w sb s
  nB : BK w nb f
  ls : s.length = S * 64
  lf : f.length = S * 64
  own : ∃ xs, w.ownsRow 0 255 2 wv m xs
  n1 : D ≠ sb
  n2 : D ≠ nb
  n3 : sb ≠ nb
  o0 : wv.ownBlock ≠ some D
  o1 : wv.ownBlock ≠ some sb
  o2 : wv.ownBlock ≠ some nb
  S0 : 1 ≤ S
  S1 : S ≤ 256
section
variable {w w' : World} {D sb nb m S : Nat} {wv : Value} {s f : List Int}
theorem Dk.keep (h : Dk w D sb nb wv m S s f) (hb : Below w.heap.size w w') : Dk w' D sb nb wv m S s f := by
  have k : ∀ {o v}, w.cell? ⟨D, o, none⟩ = some v → w'.cell? ⟨D, o, none⟩ = some v := fun hc => (hb.cell (p := ⟨D, _, none⟩) h.lt).trans hc
  obtain ⟨xs, ho⟩ := h.own
  exact ⟨k h.c0, k h.c1, k h.c2, k h.c3, fun j => (hb.frozen (p := ⟨D, j, none⟩) h.lt).trans (h.fz j), Nat.lt_of_lt_of_le h.lt hb.size, h.sB.keep hb, h.nB.keep hb, h.ls, h.lf, ⟨xs, owns_keep ho hb⟩, h.n1, h.n2, h.n3, h.o0, h.o1, h.o2, h.S0, h.S1⟩
set_option maxRecDepth 100000 in
theorem goes_is (h : Dk w D sb nb wv m S s f) : Calls Tryz.prog 113 #[.pointer (some ⟨D, 0, none⟩)] w fun e w' => e = .returned (.bool true) ∧ w = w' := by
  have c3 := h.c3
  clear h
  go_enter Tryz.func113, Tryz.ntmps113
  go_wp2_with fail
  go_ret
  exact ⟨rfl, rfl⟩
set_option maxRecDepth 100000 in
theorem size_is (h : Dk w D sb nb wv m S s f) : Calls Tryz.prog 54 #[.pointer (some ⟨D, 0, none⟩)] w fun e w' => e = .returned (.int .i64 S) ∧ w = w' := by
  have c1 := h.c1
  have s1 := h.S1
  obtain ⟨n, hn⟩ : ∃ n, n = S * 64 := ⟨_, rfl⟩
  rw [← hn] at c1
  have q : (n : Int) / 64 = S := by omega
  have q2 : (n : Int).tdiv 64 = S := by rw [Int.tdiv_eq_ediv_of_nonneg (by omega)]; exact q
  have b0 : (n : Int) ≤ 16384 := by omega
  have y3 : IntKind.i64.wrap (S : Int) = S := IntWalk.i64_in _ (by omega)
  clear h hn
  go_enter Tryz.func54, Tryz.ntmps54
  go_wp2_with fail
  go_ret
  exact ⟨rfl, rfl⟩
set_option maxRecDepth 100000 in
set_option maxHeartbeats 400000 in
theorem read_is (h : Dk w D sb nb wv m S s f) {k : Nat} (hk : k < S) : Calls Tryz.prog 61 #[.pointer (some ⟨D, 0, none⟩), .int .i64 k] w fun e w' => ∃ v, e = .returned (.tuple #[v, .int .i64 0]) ∧ w'.ownsRow w.heap.size 5 1 v 64 ((sect f k).map u8V) ∧ Below w.heap.size w w' := by
  have c1 := h.c1
  have s1 := h.S1
  have HSZ := Lib.hid (size_is h)
  have hat : At (Value.int .u8) 0 w (.slice (some ⟨nb, k * 64, none⟩) 64 (S * 64 - k * 64)) (sect f k) := by
    have hl := sect_len h.lf hk
    refine ⟨_, _, by rw [hl], by omega, by unfold maxLen; omega, .inr ⟨nb, k * 64, rfl, h.nB.lt, fun i hi => ?_⟩⟩
    rw [hl] at hi
    rw [sect_get hi]
    exact h.nB.cell (by rw [h.lf]; omega)
  have HCL := Lib.hid (cloneB_is (by rw [sect_len h.lf hk]; omega) hat)
  have HLN := Lib.hid (sect_len h.lf hk)
  obtain ⟨n, hn⟩ : ∃ n, n = S * 64 := ⟨_, rfl⟩
  rw [← hn] at c1 HCL
  have i0 : ¬ (k : Int) < 0 := by omega
  have i1 : ¬ (S : Int) ≤ (k : Int) := by omega
  have b0 : (n : Int) ≤ 16384 := by omega
  have b1 : (k : Int) * 64 + 64 ≤ n := by omega
  have HN := Lib.hid hn
  clear h hat hn
  go_enter Tryz.func61, Tryz.ntmps61
  go_upto_region 3 with (go_at_call 54; refine HSZ.out.mono ?_; rintro e1 w1 ⟨rfl, rfl⟩)
  go_wp2_with (go_at_call 114; rw [show (k + 1) * 64 - k * 64 = 64 by omega]; refine HCL.out.mono ?_; rintro e2 w2 ⟨v2, rfl, ho2, hb2⟩; rw [HLN.out] at ho2)
  go_ret2
  exact ⟨v2, rfl, ho2, hb2⟩
end
end Go.Proofs.YtnbhohaphmilmaaGreatDoor
namespace Go.Proofs.YtnbhohaphmilmaaGreatDoor
open Go.RowKit
set_option linter.unusedVariables false
set_option linter.unusedSimpArgs false
def copyB := Builtin.copy_ #[54, 54] 3
theorem copyB_eq : Builtin.copy_ #[54, 54] 3 = copyB := rfl
theorem BK.setRow {w : World} {g : Nat} {l : List Int} (h : BK w g l) (l' : List Int) : BK (w.setRow g (l'.map u8V).toArray) g l' := setRow_heap w g _ _ 5 _ h
/-- bytes are copied into a block -/
theorem run_copyB {w : World} {g o dL dC sL sC sb so : Nat} {cur cs : List Int} (hg : BK w g cur) (hn : cs.length = Nat.min sL dL) (hs : ∀ i, i < cs.length → w.cell? ⟨sb, so + i, none⟩ = some (u8V (cs.getD i 0))) (hf : o + cs.length ≤ cur.length) :
    (copyB #[.slice (some ⟨g, o, none⟩) dL dC, .slice (some ⟨sb, so, none⟩) sL sC]).run Tryz.prog w = .ok (.int .i64 cs.length) (w.setRow g ((splice cur o cs).map u8V).toArray) := by
  have h := run_copy_row (P := Tryz.prog) w 54 54 3 5 g o dL dC ⟨sb, so, none⟩ sL sC (cur.map u8V).toArray 5 (cs.map u8V) Tryz.underlying54 (by kernel_rfl) hg (by simpa using hn) (cells_u8 hs) (by simpa using hf) (u8V_one cs)
  have e : ((cur.map u8V).toArray.toList.take o ++ cs.map u8V ++ (cur.map u8V).toArray.toList.drop (o + (cs.map u8V).length)).toArray = ((splice cur o cs).map u8V).toArray := by
    simp [splice, List.map_take, List.map_drop]
  rw [e] at h
  rw [← copyB_eq, h]
  simp [goInt]
def Dset (D sb nb : Nat) (wv : Value) : Nat → Prop := fun k => k = D ∨ k = sb ∨ k = nb ∨ wv.ownBlock = some k
theorem BK.upd {S : Nat → Prop} {w w' : World} {g : Nat} {l : List Int} (h : BK w g l) (hu : Upd S w w') (hn : ¬ S g) : BK w' g l := (hu.block g h.lt hn).trans h
section
variable {w w' : World} {D sb nb m S : Nat} {wv : Value} {s f : List Int}
theorem Dk.flushed (h : Dk w D sb nb wv m S s f) : Dk ((w.drew.setRow sb (f.map u8V).toArray).setCell ⟨D, 2, none⟩ (.slice none 0 0)) D sb nb (.slice none 0 0) 0 S f f := by
  have u1 : Upd (fun k => k = sb) w (w.drew.setRow sb (f.map u8V).toArray) := (Upd.drew w).trans (Upd.setRow w.drew _ rfl)
  have k : ∀ {o v}, w.cell? ⟨D, o, none⟩ = some v → (w.drew.setRow sb (f.map u8V).toArray).cell? ⟨D, o, none⟩ = some v := fun hc => (u1.cell h.lt h.n1).trans hc
  have u2 : Upd (fun k => k = D) (w.drew.setRow sb (f.map u8V).toArray) ((w.drew.setRow sb (f.map u8V).toArray).setCell ⟨D, 2, none⟩ (.slice none 0 0)) := Upd.set _ _ rfl
  refine ⟨set_off (by decide) (k h.c0), set_off (by decide) (k h.c1), set_same (k h.c2), set_off (by decide) (k h.c3), fun j => ?_, ?_, ?_, ?_, h.lf, h.lf, ⟨[], World.ownsRow_nil _ _ _ _⟩, h.n1, h.n2, h.n3, by simp [Value.ownBlock], by simp [Value.ownBlock], by simp [Value.ownBlock], h.S0, h.S1⟩
  · rw [World.frozen?_setCell]; exact (u1.frozen h.lt h.n1).trans (h.fz j)
  · exact Nat.lt_of_lt_of_le h.lt (Nat.le_trans u1.size u2.size)
  · have : BK w.drew sb s := h.sB
    exact (this.setRow f).upd u2 (fun e => h.n1 e.symm)
  · exact (h.nB.upd u1 (fun e => h.n3 e.symm)).upd u2 (fun e => h.n2 e.symm)
attribute [local go_sem ↓] copyB_eq
set_option maxRecDepth 100000 in
set_option maxHeartbeats 400000 in
theorem flush_is (h : Dk w D sb nb wv m S s f) : Calls Tryz.prog 60 #[.pointer (some ⟨D, 0, none⟩)] w fun e w' => e = .returned (.tuple #[]) ∧ Dk w' D sb nb (.slice none 0 0) 0 S f f ∧ Upd (fun k => k = D ∨ k = sb) w w' := by
  have c0 := h.c0
  have c1 := h.c1
  have c2 := h.c2
  have fz : (w.drew.setRow sb (f.map u8V).toArray).frozen? ⟨D, 2, none⟩ = false := (((Upd.drew (S := fun k => k = sb) w).trans (Upd.setRow w.drew _ rfl)).frozen h.lt h.n1).trans (h.fz 2)
  have c2' : (w.drew.setRow sb (f.map u8V).toArray).cell? ⟨D, 2, none⟩ = some wv := (((Upd.drew (S := fun k => k = sb) w).trans (Upd.setRow w.drew _ rfl)).cell h.lt h.n1).trans c2
  have HGO := Lib.hid (goes_is h)
  have HFL := Lib.hid h.flushed
  have HUP := Lib.hid (((Upd.drew (S := fun k => k = D ∨ k = sb) w).trans (Upd.setRow w.drew (f.map u8V).toArray (.inr rfl))).trans (Upd.set (i := 2) _ (.slice none 0 0) (.inl rfl)))
  have hcp : (copyB #[.slice (some ⟨sb, 0, none⟩) (S * 64) (S * 64), .slice (some ⟨nb, 0, none⟩) (S * 64) (S * 64)]).run Tryz.prog w.drew = .ok (.int .i64 ((S * 64 : Nat) : Int)) (w.drew.setRow sb (f.map u8V).toArray) := by
    have := run_copyB (w := w.drew) (g := sb) (o := 0) (dL := S * 64) (dC := S * 64) (sL := S * 64) (sC := S * 64) (sb := nb) (so := 0) (cur := s) (cs := f) h.sB (by rw [h.lf]; exact (Nat.min_self _).symm) (fun i hi => by rw [Nat.zero_add]; exact h.nB.cell hi) (by rw [h.lf, h.ls]; omega)
    have e : splice s 0 f = f := by
      have e1 := h.lf
      have e2 := h.ls
      simp [splice]
      omega
    rw [e, h.lf] at this
    exact this
  obtain ⟨n, hn⟩ : ∃ n, n = S * 64 := ⟨_, rfl⟩
  have b0 : (n : Int) ≤ 16384 := by have := h.S1; omega
  rw [← hn] at c0 c1 hcp
  generalize w.drew.setRow sb (f.map u8V).toArray = w1 at *
  clear h hn
  go_enter Tryz.func60, Tryz.ntmps60
  go_upto_region 1 with (go_at_call 113; refine HGO.out.mono ?_; rintro e1 w1 ⟨rfl, rfl⟩)
  go_region
  go_wp2_with fail
  (try simp only [Exit.inBlock, Exit.then]); first | (refine bodyPost_ret (results_none rfl _ _ _) rfl ?_) | (refine bodyPost_end (results_none rfl _ _ _) rfl ?_)
  exact ⟨rfl, HFL.out, HUP.out⟩
end
end Go.Proofs.YtnbhohaphmilmaaGreatDoor
namespace Go.Proofs.YtnbhohaphmilmaaGreatDoor
open Go.RowKit
set_option linter.unusedVariables false
set_option linter.unusedSimpArgs false
def appW := Builtin.append_ #[139, 139] 139
theorem appW_eq : Builtin.append_ #[139, 139] 139 = appW := rfl
theorem infoW : (Tryz.prog.info? 255).map (fun i => (i.zero, i.size, i.bytes)) = some (some (.agg #[.int .i64 0, .slice none 0 0]), 2, 32) := by kernel_rfl
/-- f with sector k anew -/
def putS (f : List Int) (k : Nat) (l : List Int) : List Int := splice f (k * 64) l
theorem putS_len {f l : List Int} {k S : Nat} (hf : f.length = S * 64) (hk : k < S) (hl : l.length = 64) : (putS f k l).length = S * 64 := by
  unfold putS
  rw [length_splice _ _ _ (by rw [hf, hl]; omega), hf]
theorem step_append_run {P : Program} {w : World} {ops : Array Oper} {o : Oper} {a : Act} {K : Act → World → Prop} {Q : Exit → Act → World → Prop} {E : Prop} (hgd : o.guard = none) (s x : Operand) (t : TypeId)
    (ho : o.op = .call { callee := .builtin .append, args := #[s, x], argTypes := #[t, t] }) {v' : Value} {w' : World}
    (hr : (Builtin.append_ #[t, t] o.type #[a.eval s, a.eval x]).run P w = .ok v' w') (h : K (a.put o.dst v') w') :
    if Region.wanted o (yielded ops a.tmps) = true then Oper.wp P o a w K Q else E := by
  have hw : Region.wanted o (yielded ops a.tmps) = true := by simp [Region.wanted, hgd]
  rw [if_pos hw]
  unfold Oper.wp execOp
  simp only [ho, resolve, invoke, builtin, Sem.run_bind, Sem.run_pure, Result.andThen_ok, List.map_toArray, List.map_cons, List.map_nil, hr]
  exact h
section
variable {w w' w2 : World} {D sb nb m S : Nat} {wv : Value} {s f : List Int}
theorem Dk.appW (h : Dk w2 D sb nb wv m S s f) (k : Int) (v2 : Value) (hv : v2.oneCell' = true) (hm : m ≤ 100000) : ∃ v' w4, (Builtin.append_ #[139, 139] 139 #[wv, .slice (some ⟨w2.heap.size, 0, none⟩) 1 1]).run Tryz.prog (w2.alloc (.cells #[.int .i64 k, v2] 255)) = .ok v' w4 ∧ w4.cell? ⟨D, 2, none⟩ = some wv ∧ w4.frozen? ⟨D, 2, none⟩ = false ∧
    Dk (w4.setCell ⟨D, 2, none⟩ v') D sb nb v' (m + 1) S s f ∧ Upd (Dset D sb nb wv) w2 (w4.setCell ⟨D, 2, none⟩ v') ∧ (v'.ownBlock = wv.ownBlock ∨ ∃ g, w2.heap.size ≤ g ∧ v'.ownBlock = some g) ∧ ∃ a c, v' = .slice a (m + 1) c := by
  have hal := Go.Joins.below_alloc1 w2 (.cells #[.int .i64 k, v2] 255)
  have h3 := h.keep hal
  obtain ⟨xs, ho⟩ := h3.own
  obtain ⟨i0, hi, hz0, hz1, hz2⟩ := info_parts infoW
  obtain ⟨v', w4, hap, own, gr, hfr⟩ := run_append_fresh (P := Tryz.prog) (w2.alloc (.cells #[.int .i64 k, v2] 255)) 0 139 139 255 i0 _ 2 32 Tryz.underlying139 hi hz0 hz1 hz2 rfl (by decide) wv m xs ho ⟨w2.heap.size, 0, none⟩ 1 1 [.int .i64 k, v2] rfl (cells_new w2 [.int .i64 k, v2] 255) (by intro u hu; simp at hu; rcases hu with rfl | rfl; rfl; exact hv) (by unfold maxLen; omega) (by omega) (by omega)
  obtain ⟨a0, cap, rfl⟩ := own_form own
  have ne : ∀ {b}, wv.ownBlock ≠ some b → some b ≠ wv.ownBlock := fun h e => h e.symm
  have u0 : Upd (fun k => k = D) w4 (w4.setCell ⟨D, 2, none⟩ (.slice a0 (m + 1) cap)) := Upd.set _ _ rfl
  have kD : ∀ {o v}, w2.cell? ⟨D, o, none⟩ = some v → w4.cell? ⟨D, o, none⟩ = some v := fun hc => (grown_cell gr h3.lt (ne h3.o0)).trans ((hal.cell (p := ⟨D, _, none⟩) h.lt).trans hc)
  have nD : ∀ {b}, b < w2.heap.size → wv.ownBlock ≠ some b → (Value.slice a0 (m + 1) cap).ownBlock ≠ some b := fun {b} hb hn => by
    rcases hfr with e | ⟨g, hg, e⟩
    · rw [e]; exact hn
    · rw [e]; intro e2; injection e2 with e2; have := hal.size; omega
  have z : ∀ j, w4.frozen? ⟨D, j, none⟩ = false := fun j => (grown_frozen gr h3.lt (ne h3.o0)).trans (h3.fz j)
  refine ⟨_, w4, hap, kD h.c2, z 2, ⟨set_off (by decide) (kD h.c0), set_off (by decide) (kD h.c1), set_same (kD h.c2), set_off (by decide) (kD h.c3), fun j => by rw [World.frozen?_setCell]; exact z j, Nat.lt_of_lt_of_le h3.lt (Nat.le_trans gr.size u0.size), (h3.sB.kept gr (ne h3.o1)).upd u0 (fun e => h.n1 e.symm), (h3.nB.kept gr (ne h3.o2)).upd u0 (fun e => h.n2 e.symm), h.ls, h.lf, ⟨_, u0.owns own (fun g hg e => nD h.lt h.o0 (by rw [hg, e]))⟩, h.n1, h.n2, h.n3, nD h.lt h.o0, nD h.sB.lt h.o1, nD h.nB.lt h.o2, h.S0, h.S1⟩, ?_, ?_, _, _, rfl⟩
  · exact ((Upd.below hal).trans (Upd.grown0 gr (fun b hb _ => .inr (.inr (.inr hb))))).trans (Upd.set _ _ (.inl rfl))
  · rcases hfr with e | ⟨g, hg, e⟩
    · exact .inl e
    · exact .inr ⟨g, Nat.le_trans hal.size hg, e⟩
theorem Dk.putB (h : Dk w D sb nb wv m S s f) {k : Nat} (hk : k < S) {l : List Int} (hl : l.length = 64) : Dk (w.setRow nb ((putS f k l).map u8V).toArray) D sb nb wv m S s (putS f k l) := by
  have u : Upd (fun b => b = nb) w (w.setRow nb ((putS f k l).map u8V).toArray) := Upd.setRow w _ rfl
  have kD : ∀ {o v}, w.cell? ⟨D, o, none⟩ = some v → (w.setRow nb ((putS f k l).map u8V).toArray).cell? ⟨D, o, none⟩ = some v := fun hc => (u.cell h.lt h.n2).trans hc
  obtain ⟨xs, ho⟩ := h.own
  exact ⟨kD h.c0, kD h.c1, kD h.c2, kD h.c3, fun j => (u.frozen h.lt h.n2).trans (h.fz j), Nat.lt_of_lt_of_le h.lt u.size, h.sB.upd u h.n3, h.nB.setRow _, h.ls, putS_len h.lf hk hl, ⟨xs, u.owns ho (fun g hg e => h.o2 (by rw [hg, e]))⟩, h.n1, h.n2, h.n3, h.o0, h.o1, h.o2, h.S0, h.S1⟩
/-- what Clone leaves ahead of the append to what waits -/
def CW (D sb nb : Nat) (wv : Value) (m S : Nat) (s f : List Int) (k : Nat) (w : World) (e : Ending) (w2 : World) : Prop :=
  ∃ a2 k2 w4 a4 k4, e = .returned (.slice a2 64 k2) ∧ w2.cell? ⟨D, 2, none⟩ = some wv ∧ (w2.alloc (.cells #[.int .i64 k, .slice a2 64 k2] 255)).cell? ⟨D, 2, none⟩ = some wv ∧ (Builtin.append_ #[139, 139] 139 #[wv, .slice (some ⟨w2.heap.size, 0, none⟩) 1 1]).run Tryz.prog (w2.alloc (.cells #[.int .i64 k, .slice a2 64 k2] 255)) = .ok (.slice a4 (m + 1) k4) w4 ∧ w4.cell? ⟨D, 2, none⟩ = some wv ∧ w4.frozen? ⟨D, 2, none⟩ = false ∧
    Hid (Dk (w4.setCell ⟨D, 2, none⟩ (.slice a4 (m + 1) k4)) D sb nb (.slice a4 (m + 1) k4) (m + 1) S s f) ∧ Hid (Upd (Dset D sb nb wv) w (w4.setCell ⟨D, 2, none⟩ (.slice a4 (m + 1) k4))) ∧ Hid ((Value.slice a4 (m + 1) k4).ownBlock = wv.ownBlock ∨ ∃ g, w.heap.size ≤ g ∧ (Value.slice a4 (m + 1) k4).ownBlock = some g)
theorem clone_w (h : Dk w D sb nb wv m S s f) {v : Value} {l : List Int} (hl : l.length = 64) (hv : At (Value.int .u8) 0 w v l) (hm : m ≤ 100000) (k : Nat) : Calls Tryz.prog 114 #[v] w (CW D sb nb wv m S s f k w) := by
  refine (cloneB_is (by rw [hl]; omega) hv).mono ?_
  rintro e2 w2 ⟨v2, rfl, ho2, hb2⟩
  rw [hl] at ho2
  obtain ⟨a2, k2, rfl⟩ := own_form ho2
  have hd2 := h.keep hb2
  obtain ⟨v4, w4, hap, c4, z4, hd4, hu4, hf4, a4, k4, rfl⟩ := hd2.appW k (.slice a2 64 k2) rfl hm
  refine ⟨a2, k2, w4, a4, k4, rfl, hd2.c2, (hd2.keep (Go.Joins.below_alloc1 w2 _)).c2, hap, c4, z4, Lib.hid hd4, Lib.hid ((Upd.below hb2).trans hu4), Lib.hid ?_⟩
  rcases hf4 with e | ⟨g, hg, e⟩
  · exact .inl e
  · exact .inr ⟨g, Nat.le_trans hb2.size hg, e⟩
def WritePost (D sb nb : Nat) (wv : Value) (m S : Nat) (s f : List Int) (k : Nat) (l : List Int) (w : World) (e : Ending) (w' : World) : Prop :=
  e = .returned (.int .i64 0) ∧ ∃ v', Dk w' D sb nb v' (m + 1) S s (putS f k l) ∧ Upd (Dset D sb nb wv) w w' ∧ (v'.ownBlock = wv.ownBlock ∨ ∃ g, w.heap.size ≤ g ∧ v'.ownBlock = some g)
attribute [local go_sem ↓] copyB_eq
set_option maxRecDepth 100000 in
set_option maxHeartbeats 1000000 in
theorem write_is (h : Dk w D sb nb wv m S s f) {k : Nat} (hk : k < S) {v : Value} {l : List Int} (hl : l.length = 64) (hv : At (Value.int .u8) 0 w v l) (hm : m ≤ 100000) (hnv : ∀ a n c, v = .slice (some a) n c → ¬ Dset D sb nb wv a.block) : Calls Tryz.prog 55 #[.pointer (some ⟨D, 0, none⟩), .int .i64 k, v] w (WritePost D sb nb wv m S s f k l w) := by
  have HGO := Lib.hid (goes_is h)
  have HSZ := Lib.hid (size_is h)
  have HCL := Lib.hid (clone_w (h.keep (Below.refl _ _).drew) hl (hv.keep (Below.refl _ _).drew) hm k)
  have HD := Lib.hid h
  have HV := Lib.hid hv
  have HNV := Lib.hid hnv
  have HM := Lib.hid hm
  obtain ⟨va, cap, rfl, hcl, hcm, hvc⟩ := hv
  rw [hl] at hcl
  have i0 : ¬ (k : Int) < 0 := by omega
  have i1 : ¬ (S : Int) ≤ (k : Int) := by omega
  have c2 := h.c2
  obtain ⟨p, hp⟩ : ∃ p, p = WritePost D sb nb wv m S s f k l w := ⟨_, rfl⟩
  rw [← hp]
  have HP := Lib.hid hp
  have HL := Lib.hid hl
  clear h hp hnv hm hvc
  rw [hl]
  rw [hl] at HCL HV HNV
  clear hl
  go_enter Tryz.func55, Tryz.ntmps55
  go_upto_region 4 with (first | (go_at_call 54; refine HSZ.out.mono ?_; rintro e1 w1 ⟨rfl, rfl⟩) | (go_at_call 113; refine HGO.out.mono ?_; rintro e1 w1 ⟨rfl, rfl⟩))
  go_region_law (first | (refine step_append_run rfl (.tmp 26) (.tmp 31) 139 rfl hap ?_) | (go_simp; go_at_call 114; refine HCL.out.mono ?_; rintro e2 w2 ⟨a2, k2, w4, a4, k4, rfl, c22, c23, hap, c4, z4, HD4, HU4, HF4⟩))
  all_goals
    have hd5 := HD4.out
    have HU5 := Lib.hid ((Upd.drew (S := Dset D sb nb wv) w).trans HU4.out)
    have HF5 := Lib.hid HF4.out
    clear HD4 HU4 HF4 hap c4 z4 c22 c23
    generalize w4.setCell ⟨D, 2, none⟩ (.slice a4 (m + 1) k4) = w5 at *
    have c1 := hd5.c1
    have s1 := hd5.S1
    have hv5 : ∃ vb vo, va = some ⟨vb, vo, none⟩ ∧ ∀ i, i < l.length → w5.cell? ⟨vb, vo + i, none⟩ = some (u8V (l.getD i 0)) := by
      obtain ⟨a', cap', e', _, _, hm'⟩ := HV.out
      rcases hm' with h0 | ⟨vb, vo, hab, hlt, hc⟩
      · have := HL.out; rw [h0] at this; simp at this
      · injection e' with e1 _ _
        rw [e1, hab]
        refine ⟨vb, vo, rfl, fun i hi => ?_⟩
        exact (HU5.out.cell hlt (HNV.out _ _ _ (by rw [e1, hab]))).trans (hc i hi)
    obtain ⟨vb, vo, rfl, hvc⟩ := hv5
    have hmin : 64 = Nat.min 64 (S * 64 - k * 64) := (Nat.min_eq_left (by omega)).symm
    have hcp := run_copyB (w := w5) (g := nb) (o := k * 64) (dL := S * 64 - k * 64) (dC := S * 64 - k * 64) (sL := 64) (sC := cap) (cs := l) hd5.nB (by rw [HL.out]; exact hmin) hvc (by rw [HL.out, hd5.lf]; omega)
    rw [HL.out] at hcp
    change (copyB _).run _ _ = .ok _ (w5.setRow nb ((putS f k l).map u8V).toArray) at hcp
    have HD6 := Lib.hid (hd5.putB hk HL.out)
    have HU6 := Lib.hid (HU5.out.trans (Upd.setRow w5 ((putS f k l).map u8V).toArray (S := Dset D sb nb wv) (.inr (.inr (.inl rfl)))))
    generalize w5.setRow nb ((putS f k l).map u8V).toArray = w6 at *
    obtain ⟨n, hn⟩ : ∃ n, n = S * 64 := ⟨_, rfl⟩
    rw [← hn] at c1 hcp
    have b0 : (n : Int) ≤ 16384 := by omega
    have b1 : (k : Int) * 64 + 64 ≤ n := by omega
    have b2 : ¬ n = k * 64 := by omega
    clear hd5 hvc hn HU5 hmin
    go_wp2_with fail
    rw [HP.out]
    exact ⟨rfl, _, HD6.out, HU6.out, HF5.out⟩
end
end Go.Proofs.YtnbhohaphmilmaaGreatDoor
namespace Go.Proofs.YtnbhohaphmilmaaGreatDoor
open Go.RowKit
set_option linter.unusedVariables false
set_option linter.unusedSimpArgs false
def appB := Builtin.append_ #[54, 54] 54
theorem appB_eq : Builtin.append_ #[54, 54] 54 = appB := rfl
/-- bytes that a call owns -/
def OB (B : Nat) (w : World) (v : Value) (l : List Int) : Prop := w.ownsRow B 5 1 v l.length (l.map u8V)
section
variable {B : Nat} {w w' : World} {v : Value} {l : List Int}
theorem OB.nil (B : Nat) (w : World) : OB B w (.slice none 0 0) [] := World.ownsRow_nil _ _ _ _
theorem OB.keep (h : OB B w v l) (hb : Below w.heap.size w w') : OB B w' v l := owns_keep h hb
theorem OB.upd {S : Nat → Prop} (h : OB B w v l) (hu : Upd S w w') (hn : ∀ g, v.ownBlock = some g → ¬ S g) : OB B w' v l := hu.owns h hn
theorem OB.base {B' : Nat} (h : OB B w v l) (hB : B' ≤ B) : OB B' w v l := owns_base h hB
theorem OB.at (h : OB B w v l) : At (Value.int .u8) 0 w v l := at_of_owned h
theorem OB.form (h : OB B w v l) : ∃ p cap, v = .slice p l.length cap := own_form h
theorem OB.drew (h : OB B w v l) : OB B w.drew v l := h.keep (Below.refl _ _).drew
theorem OB.drewN (h : OB B w v l) (n : Nat) : OB B (w.drewN n) v l := h.keep (below_drewN (Below.refl _ _) n)
theorem OB.far (h : OB B w v l) {b : Nat} (hb : b < B) : v.ownBlock ≠ some b := far_row h hb
/-- some bytes behind them -/
theorem OB.app (h : OB B w v l) (hB : B ≤ w.heap.size) {a : Addr} {c : Nat} {news : List Int} (hn : ∀ j u, (news.map u8V)[j]? = some u → w.cell? (a.add j) = some u) (h64 : l.length + news.length ≤ 1000000) :
    ∃ p c' w', (appB #[v, .slice (some a) news.length c]).run Tryz.prog w = .ok (.slice p (l.length + news.length) c') w' ∧ OB B w' (.slice p (l.length + news.length) c') (l ++ news) ∧ w.grownBy w' v.ownBlock ∧ Below B w w' := by
  obtain ⟨i0, hi, hz0, hz1, hz2⟩ := info_parts info5
  obtain ⟨v', w', hr, ho, hg, -⟩ := run_append_fresh (P := Tryz.prog) w B 54 54 5 i0 (.int .u8 0) 1 1 Tryz.underlying54 hi hz0 hz1 hz2 rfl (by decide) v l.length (l.map u8V) h a news.length c (news.map u8V) (by simp) hn (u8V_one news) (by unfold maxLen; omega) (by omega) hB
  obtain ⟨p, c', rfl⟩ := own_form ho
  refine ⟨p, c', w', hr, ?_, hg, ?_⟩
  · unfold OB
    rw [List.length_append, List.map_append]
    exact ho
  · exact (Below.refl B w).grown hg hB (fun g hgg => (h.lt g hgg).1)
/-- one byte behind them -/
theorem OB.push (h : OB B w v l) (hB : B ≤ w.heap.size) (x : Int) (h64 : l.length < 1000000) :
    ∃ p c' w', (appB #[v, .slice (some ⟨w.heap.size, 0, none⟩) 1 1]).run Tryz.prog (w.alloc (.cells #[.int .u8 x] 5)) = .ok (.slice p (l.length + 1) c') w' ∧ OB B w' (.slice p (l.length + 1) c') (l ++ [x]) ∧ (w.alloc (.cells #[.int .u8 x] 5)).grownBy w' v.ownBlock ∧ Below B w w' := by
  have hal := (Below.refl B w).alloc hB (.cells #[.int .u8 x] 5)
  obtain ⟨p, c', w', hr, ho, hg, hb⟩ := (h.keep (Go.Joins.below_alloc1 w (.cells #[.int .u8 x] 5))).app (a := ⟨w.heap.size, 0, none⟩) (c := 1) (news := [x]) (Nat.le_trans hB hal.size) (cells1_new w (.int .u8 x) 5) (by simp; omega)
  exact ⟨p, c', w', hr, ho, hg, hal.trans hb⟩
/-- a block of bytes is one's own -/
theorem ob_of_bk {g c : Nat} (h : BK w g l) (hB : B ≤ g) (hl : l.length ≤ 1000000) (hc : c = l.length) : OB B w (.slice (some ⟨g, 0, none⟩) l.length c) l := by
  subst hc
  refine ⟨by simp, .inr ⟨g, l.length, (l.map u8V).toArray, rfl, hB, h, Nat.le_refl _, by unfold maxLen; omega, by simp, ?_⟩⟩
  rw [Nat.mul_one, List.take_of_length_le (by simp)]
theorem BK.setCell {g : Nat} (h : BK w g l) (i : Nat) (x : Int) : w.setCell ⟨g, i, none⟩ (.int .u8 x) = w.setRow g ((l.set i x).map u8V).toArray := by
  rw [setCell_eq_setRow w g i _ 5 (0, 0) _ h]
  congr 1
  simp [List.map_set]
end
def mkB (a b : Value) : Sem Value := Instr.makeSlice 54 a b
theorem mkB_eq (a b : Value) : Instr.makeSlice 54 a b = mkB a b := rfl
def zeros (n : Nat) : List Int := List.replicate n 0
theorem zeros_len (n : Nat) : (zeros n).length = n := by simp [zeros]
theorem mkB_run (w : World) (n : Nat) (hn : n ≤ 1000000) : (mkB (.int .i64 (n : Int)) (.int .i64 (n : Int))).run Tryz.prog w = .ok (.slice (some ⟨w.heap.size, 0, none⟩) n n) (w.alloc (.cells ((zeros n).map u8V).toArray 5)) := by
  obtain ⟨i, hi, hz, hs, hb⟩ := info_parts info5
  have := run_makeSlice (P := Tryz.prog) w 54 5 i (.int .u8 0) Tryz.underlying54 hi hz .i64 .i64 (n : Int) (n : Int) (by omega) (Int.le_refl _) (by rw [hs]; simp; omega) (by rw [hb]; simp; omega) (by omega)
  unfold mkB
  rw [this, hs]
  have e : madeCells (Value.cells (.int .u8 0)) ((n : Int).toNat * 1) = ((zeros n).map u8V).toArray := by
    apply Array.ext
    · simp [size_madeCells, zeros]
    · intro j h1 h2
      simp [madeCells, zeros, Value.cells, Nat.mod_one]
  rw [e]
  simp
theorem mkB64 (w : World) : (mkB (.int .i64 64) (.int .i64 64)).run Tryz.prog w = .ok (.slice (some ⟨w.heap.size, 0, none⟩) 64 64) (w.alloc (.cells ((zeros 64).map u8V).toArray 5)) := mkB_run w 64 (by decide)
theorem mkB32 (w : World) : (mkB (.int .i64 32) (.int .i64 32)).run Tryz.prog w = .ok (.slice (some ⟨w.heap.size, 0, none⟩) 32 32) (w.alloc (.cells ((zeros 32).map u8V).toArray 5)) := mkB_run w 32 (by decide)
theorem mkB16 (w : World) : (mkB (.int .i64 16) (.int .i64 16)).run Tryz.prog w = .ok (.slice (some ⟨w.heap.size, 0, none⟩) 16 16) (w.alloc (.cells ((zeros 16).map u8V).toArray 5)) := mkB_run w 16 (by decide)
def copyS := Builtin.copy_ #[54, 9] 3
theorem copyS_eq : Builtin.copy_ #[54, 9] 3 = copyS := rfl
/-- a string is copied to the head of a block -/
theorem run_copyS {w : World} {g dC : Nat} {cur news : List Int} {s : ByteArray} (hg : BK w g cur) (hs : Lib.byteCells s.data.toList = news.map u8V) (hz : s.size = news.length) (hle : news.length ≤ cur.length) :
    (copyS #[.slice (some ⟨g, 0, none⟩) cur.length dC, .string s]).run Tryz.prog w = .ok (.int .i64 news.length) (w.setRow g ((splice cur 0 news).map u8V).toArray) := by
  have h := Lib.run_copy_row_string (P := Tryz.prog) w 54 9 3 5 g 0 cur.length dC s (cur.map u8V).toArray 5 Tryz.underlying54 (by kernel_rfl) hg (by omega) (by simp; omega)
  rw [← copyS_eq, h, hs, hz]
  simp [goInt, splice, List.map_drop]
end Go.Proofs.YtnbhohaphmilmaaGreatDoor
namespace Go.Proofs.YtnbhohaphmilmaaGreatDoor
open Go.RowKit
set_option linter.unusedVariables false
set_option linter.unusedSimpArgs false
/-- a slice of instructions -/
def InsL (w : World) (v : Value) (l : List CodeLaw.Ins) : Prop := ∃ b cap, v = .slice (some ⟨b, 0, none⟩) l.length cap ∧ ∀ (i : Nat) (x : CodeLaw.Ins), l[i]? = some x → w.cell? ⟨b, i * 4, none⟩ = some (.int .i64 x.op) ∧ w.cell? ⟨b, i * 4 + 1, none⟩ = some (.int .i64 x.a) ∧ w.cell? ⟨b, i * 4 + 2, none⟩ = some (.int .i64 x.b) ∧ w.cell? ⟨b, i * 4 + 3, none⟩ = some (.int .i64 x.c)
theorem InsL.keep {w w' : World} {v : Value} {l : List CodeLaw.Ins} (h : InsL w v l) (hb : Below w.heap.size w w') : InsL w' v l := by
  obtain ⟨b, cap, rfl, hc⟩ := h
  refine ⟨b, cap, rfl, fun i x hx => ?_⟩
  obtain ⟨c0, c1, c2, c3⟩ := hc i x hx
  have hl := World.block_lt_of_cell? w _ c0
  exact ⟨(hb.cell (p := ⟨b, i * 4, none⟩) hl).trans c0, (hb.cell (p := ⟨b, i * 4 + 1, none⟩) hl).trans c1, (hb.cell (p := ⟨b, i * 4 + 2, none⟩) hl).trans c2, (hb.cell (p := ⟨b, i * 4 + 3, none⟩) hl).trans c3⟩
/-- a word as bytes -/
def wordB (x : Int) : List Int := [x % 256, x / 256 % 256, x / 65536 % 256, x / 16777216]
def progB (l : List CodeLaw.Ins) : List Int := l.flatMap fun i => wordB (CodeLaw.encI i).1
theorem progB_len (l : List CodeLaw.Ins) : (progB l).length = l.length * 4 := by
  induction l with
  | nil => rfl
  | cons a t ih => simp only [progB, List.flatMap_cons, List.length_append, List.length_cons] at ih ⊢; rw [ih]; simp [wordB]; omega
theorem progB_take {l : List CodeLaw.Ins} {k : Nat} {x : CodeLaw.Ins} (hx : l[k]? = some x) : progB (l.take (k + 1)) = progB (l.take k) ++ wordB (CodeLaw.encI x).1 := by
  obtain ⟨hk, e⟩ := List.getElem?_eq_some_iff.1 hx
  rw [List.take_add_one, hx]
  simp [progB]
def EncOk (l : List CodeLaw.Ins) : Prop := ∀ (i : Nat) (x : CodeLaw.Ins), l[i]? = some x → (CodeLaw.encI x).2 = 0 ∧ 0 ≤ (CodeLaw.encI x).1 ∧ (CodeLaw.encI x).1 < 4294967296
attribute [local go_sem ↓] appB_eq
set_option maxRecDepth 100000 in
set_option maxHeartbeats 1000000 in
theorem words_is {w : World} {v : Value} {l : List CodeLaw.Ins} (h : InsL w v l) (he : EncOk l) (hl : l.length ≤ 100) : Calls Tryz.prog 34 #[v] w fun e w' => ∃ u, e = .returned (.tuple #[u, .bool true]) ∧ OB w.heap.size w' u (progB l) ∧ Below w.heap.size w w' := by
  have HI := Lib.hid h
  have HE := Lib.hid he
  obtain ⟨b, cap, rfl, -⟩ := h
  obtain ⟨n, hn⟩ : ∃ n, n = l.length := ⟨_, rfl⟩
  rw [← hn]
  have n100 : (n : Int) ≤ 100 := by omega
  have HN := Lib.hid hn
  clear he hl hn
  go_enter Tryz.func34, Tryz.ntmps34
  go_wp2_with fail
  go_loopw [4, 11] (fun ov kv wr => ∃ k : Nat, k ≤ n ∧ kv = .int .i64 k ∧ Hid (OB w.heap.size wr ov (progB (l.take k))) ∧ Hid (Below w.heap.size w wr)) (fun _ kv _ => n - (intOf kv).toNat)
  case atStart => exact ⟨0, Nat.zero_le _, rfl, Lib.hid (by rw [List.take_zero]; exact OB.nil _ _), Lib.hid (Below.refl _ _)⟩
  case round =>
    obtain ⟨k, hk0, rfl, HO, HB⟩ := hrel
    by_cases hk : k < n
    · have i1 : (k : Int) < n := by omega
      obtain ⟨x, hx⟩ : ∃ x, l[k]? = some x := ⟨l[k]'(by have := HN.out; omega), List.getElem?_eq_getElem _⟩
      obtain ⟨b', cap', e, hc⟩ := HI.out.keep HB.out
      have e : Value.slice (some ⟨b, 0, none⟩) l.length cap = .slice (some ⟨b', 0, none⟩) l.length cap' := e
      injection e with e _ _
      injection e with e
      injection e with e
      subst e
      obtain ⟨c0, c1, c2, c3⟩ := hc k x hx
      have HX := Lib.hid hx
      obtain ⟨e0, e1, e2⟩ := HE.out k x hx
      have HEN := Lib.hid (CodeLaw.enc_is x.op x.a x.b x.c (wr.alloc (.cells #[.int .i64 x.op, .int .i64 x.a, .int .i64 x.b, .int .i64 x.c] 89)))
      obtain ⟨y, hy⟩ : ∃ y, y = (CodeLaw.encI x).1 := ⟨_, rfl⟩
      rw [show (CodeLaw.encR x.op x.a x.b x.c).2 = 0 from e0, show (CodeLaw.encR x.op x.a x.b x.c).1 = y from hy.symm] at HEN
      rw [← hy] at e1 e2
      have HPT := Lib.hid (progB_take hx)
      rw [← hy] at HPT
      have HAL := Lib.hid (Go.Joins.below_alloc1 wr (.cells #[.int .i64 x.op, .int .i64 x.a, .int .i64 x.b, .int .i64 x.c] 89))
      clear hc hx e0 hy
      generalize x.op = q0 at *
      generalize x.a = q1 at *
      generalize x.b = q2 at *
      generalize x.c = q3 at *
      obtain ⟨p0, cp0, hform⟩ := HO.out.form
      subst hform
      go_upto_region 8 with (go_at_call 81; refine HEN.out.mono ?_; rintro e4 w4 ⟨rfl, hb4⟩)
      have HB4 := Lib.hid (HAL.out.trans (hb4.mono HAL.out.size))
      have HO4 := Lib.hid ((HO.out.keep HB4.out).keep (Go.Joins.below_alloc1 w4 (.cells #[.int .u8 (y % 256), .int .u8 (y / 256 % 256), .int .u8 (y / 65536 % 256), .int .u8 (y / 16777216)] 5)))
      have HB5 := Lib.hid ((HB.out.trans (HB4.out.mono HB.out.size)).trans ((Go.Joins.below_alloc1 w4 (.cells #[.int .u8 (y % 256), .int .u8 (y / 256 % 256), .int .u8 (y / 65536 % 256), .int .u8 (y / 16777216)] 5)).mono (Nat.le_trans HB.out.size HB4.out.size)))
      have hlen : (progB (l.take k)).length + (wordB y).length ≤ 1000000 := by
        rw [progB_len, List.length_take]
        have := HN.out
        show _ + 4 ≤ _
        omega
      obtain ⟨p5, c5, w5, hap, ho5, hg5, hb5⟩ := HO4.out.app (a := ⟨w4.heap.size, 0, none⟩) (c := 4) (news := wordB y) HB5.out.size (cells_new w4 [.int .u8 (y % 256), .int .u8 (y / 256 % 256), .int .u8 (y / 65536 % 256), .int .u8 (y / 16777216)] 5) hlen
      rw [show (wordB y).length = 4 from rfl] at hap ho5
      rw [← HPT.out] at ho5
      have HO5 := Lib.hid ho5
      have HB6 := Lib.hid (HB5.out.trans hb5)
      clear hb4 ho5 hg5 hb5 hlen HO4 HO HB HB4 HB5 HAL
      go_wp2_with fail
      go_roundw
      case rel => exact ⟨k + 1, by omega, by go_num, HO5, HB6⟩
      case measure => simp [intOf]; omega
    · obtain rfl : k = n := by omega
      go_wp2_with fail
      go_ret2
      exact ⟨_, rfl, by have := HO.out; rw [HN.out, List.take_length] at this; exact this, HB.out⟩
end Go.Proofs.YtnbhohaphmilmaaGreatDoor
