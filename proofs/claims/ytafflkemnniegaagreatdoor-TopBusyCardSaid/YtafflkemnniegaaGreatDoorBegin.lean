/- What a call may turn: the blocks of a set, and none but them; new ones may come. No program here. Slices of bytes: what is known of them, and slices.Clone at bytes. The walks of package disk: Size, goes, Read. The walks of package disk: Flush. Whole rows, and parts of rows, by value: of any struct or array type. The walks of what a kernel begins with: pipe.New, wheel.New, space.New, space's Make. -/
import Derived.Test.YtafflkemnniegaaGreatDoorSpaceMap
import Derived.Test.YtafflkemnniegaaGreatDoorProg
import Derived.WalkSpells
import Derived.Laws.CopyOwn
import Derived.Laws.CopyRow
import Derived.Deep.CutBlock
import Derived.StillTailTactics
import Derived.Deep.RegionHeld3
import Derived.IntWalk
import Derived.Deep.WholeRow
import Derived.Deep.MidRow
import Derived.Deep.Cut
import Derived.Deep.CutRange
import Derived.Deep.DeepCutAuto
import Derived.Deep.RegionWith
import Derived.ChangeKeysEq
namespace Go.Proofs.YtafflkemnniegaaGreatDoor
open Go.RowKit
set_option linter.unusedVariables false
set_option linter.unusedSimpArgs false
/-- From w on only blocks of S were turned. -/
structure Upd (S : Nat → Prop) (w w' : World) : Prop where
  os : w'.os = w.os
  tape : w'.tape = w.tape
  output : w'.output = w.output
  size : w.heap.size ≤ w'.heap.size
  block : ∀ k, k < w.heap.size → ¬ S k → w'.heap[k]? = w.heap[k]?
section
variable {S S' : Nat → Prop} {w w' a b c : World}
theorem Upd.refl (S : Nat → Prop) (w : World) : Upd S w w := ⟨rfl, rfl, rfl, Nat.le_refl _, fun _ _ _ => rfl⟩
theorem Upd.trans' (h : Upd S a b) (k : Upd S' b c) (hs : ∀ i, i < a.heap.size → S' i → S i) : Upd S a c :=
  ⟨k.os.trans h.os, k.tape.trans h.tape, k.output.trans h.output, Nat.le_trans h.size k.size, fun i hi hn => (k.block i (Nat.lt_of_lt_of_le hi h.size) (fun e => hn (hs i hi e))).trans (h.block i hi hn)⟩
theorem Upd.trans (h : Upd S a b) (k : Upd S b c) : Upd S a c := h.trans' k (fun _ _ e => e)
theorem Upd.mono (h : Upd S a b) (hs : ∀ i, i < a.heap.size → S i → S' i) : Upd S' a b :=
  ⟨h.os, h.tape, h.output, h.size, fun i hi hn => h.block i hi (fun e => hn (hs i hi e))⟩
theorem Upd.below (h : Below w.heap.size w w') : Upd S w w' := ⟨h.os, h.tape, h.output, h.size, fun i hi _ => h.block i hi⟩
theorem Upd.grown {b : Nat} (h : w.grownBy w' (some b)) (hb : S b) : Upd S w w' := ⟨h.os, h.tape, h.output, h.size, fun i hi hn => h.block i hi (by intro e; injection e with e; subst e; exact hn hb)⟩
theorem Upd.grown0 {row : Option Nat} (h : w.grownBy w' row) (hb : ∀ b, row = some b → b < w.heap.size → S b) : Upd S w w' := ⟨h.os, h.tape, h.output, h.size, fun i hi hn => h.block i hi (fun e => hn (hb i e.symm hi))⟩
theorem Upd.set (w : World) {b i : Nat} (v : Value) (hb : S b) : Upd S w (w.setCell ⟨b, i, none⟩ v) :=
  ⟨rfl, rfl, rfl, by simp [World.setCell], fun k hk hn => Below.heap_setCell _ _ _ _ (by intro e; subst e; exact hn hb)⟩
theorem Upd.setRow (w : World) {b : Nat} (C : Array Value) (hb : S b) : Upd S w (w.setRow b C) :=
  ⟨rfl, rfl, rfl, by simp [World.setRow], fun k hk hn => setRow_other w b k C (by intro e; subst e; exact hn hb)⟩
theorem Upd.drewN (w : World) (n : Nat) : Upd S w (w.drewN n) := ⟨rfl, rfl, rfl, Nat.le_refl _, fun _ _ _ => rfl⟩
theorem Upd.drew (w : World) : Upd S w w.drew := ⟨rfl, rfl, rfl, Nat.le_refl _, fun _ _ _ => rfl⟩
theorem Upd.alloc (w : World) (o : Obj) : Upd S w (w.alloc o) := Upd.below ((Below.refl _ _).alloc (Nat.le_refl _) o)
theorem Upd.cell (h : Upd S w w') {b o : Nat} (hb : b < w.heap.size) (hn : ¬ S b) : w'.cell? ⟨b, o, none⟩ = w.cell? ⟨b, o, none⟩ := by
  have := h.block b hb hn
  simp only [World.cell?, this]
theorem Upd.frozen (h : Upd S w w') {b o : Nat} (hb : b < w.heap.size) (hn : ¬ S b) : w'.frozen? ⟨b, o, none⟩ = w.frozen? ⟨b, o, none⟩ := by
  have := h.block b hb hn
  simp only [World.frozen?, this]
theorem Upd.toBelow {B : Nat} (h : Upd S w w') (hB : B ≤ w.heap.size) (hs : ∀ k, k < B → ¬ S k) : Below B w w' :=
  ⟨h.os, h.tape, h.output, h.size, fun k hk => h.block k (by omega) (hs k hk)⟩
theorem Upd.owns {B e s n : Nat} {v : Value} {l : List Value} (h : Upd S w w') (ho : w.ownsRow B e s v n l) (hn : ∀ g, v.ownBlock = some g → ¬ S g) : w'.ownsRow B e s v n l := by
  refine ⟨ho.1, ?_⟩
  rcases ho.2 with h0 | ⟨g, c, cur, he, hb, hg, hr⟩
  · exact .inl h0
  · exact .inr ⟨g, c, cur, he, hb, (h.block g (Array.getElem?_eq_some_iff.1 hg).1 (hn g (by rw [he]; rfl))).trans hg, hr⟩
end
/-- a store into a cell that is there -/
theorem set_same {w : World} {b i : Nat} {x y : Value} (h : w.cell? ⟨b, i, none⟩ = some y) : (w.setCell ⟨b, i, none⟩ x).cell? ⟨b, i, none⟩ = some x := by
  simp [go_sem, h]
theorem set_off {w : World} {b c i j : Nat} {x v : Value} (hj : j ≠ i) (h : w.cell? ⟨b, j, none⟩ = some v) : (w.setCell ⟨c, i, none⟩ x).cell? ⟨b, j, none⟩ = some v := by
  rw [World.cell?_setCell_other _ _ _ _ (by intro e; exact hj (by simpa using (congrArg Addr.off e).symm))]; exact h
theorem set_blk {w : World} {b c i j : Nat} {x v : Value} (hj : b ≠ c) (h : w.cell? ⟨b, j, none⟩ = some v) : (w.setCell ⟨c, i, none⟩ x).cell? ⟨b, j, none⟩ = some v := by
  rw [World.cell?_setCell_other _ _ _ _ (by intro e; exact hj (by simpa using (congrArg Addr.block e).symm))]; exact h
theorem grown_cell {w w' : World} {row : Option Nat} (h : w.grownBy w' row) {b o : Nat} (hlt : b < w.heap.size) (hne : some b ≠ row) : w'.cell? ⟨b, o, none⟩ = w.cell? ⟨b, o, none⟩ := by
  have := h.block b hlt hne
  simp only [World.cell?, this]
theorem grown_frozen {w w' : World} {row : Option Nat} (h : w.grownBy w' row) {b o : Nat} (hlt : b < w.heap.size) (hne : some b ≠ row) : w'.frozen? ⟨b, o, none⟩ = w.frozen? ⟨b, o, none⟩ := by
  have := h.block b hlt hne
  simp only [World.frozen?, this]
theorem below_drewN {B : Nat} {a w : World} (h : Below B a w) (n : Nat) : Below B a (w.drewN n) := ⟨h.os, h.tape, h.output, h.size, h.block⟩
end Go.Proofs.YtafflkemnniegaaGreatDoor
namespace Go.Proofs.YtafflkemnniegaaGreatDoor
open Go.RowKit
set_option linter.unusedVariables false
set_option linter.unusedSimpArgs false
theorem info5 : (Tryz.prog.info? 5).map (fun i => (i.zero, i.size, i.bytes)) = some (some (.int .u8 0), 1, 1) := by kernel_rfl
abbrev u8V (x : Int) : Value := .int .u8 x
theorem u8V_one (l : List Int) : ∀ u ∈ l.map u8V, u.oneCell' = true := by
  intro u hu
  obtain ⟨x, _, rfl⟩ := List.mem_map.1 hu
  rfl
theorem cells_u8 {w : World} {b off : Nat} {l : List Int} (h : ∀ i, i < l.length → w.cell? ⟨b, off + i, none⟩ = some (u8V (l.getD i 0))) : ∀ j u, (l.map u8V)[j]? = some u → w.cell? ((⟨b, off, none⟩ : Addr).add j) = some u := by
  intro j u hj
  rw [Addr.add_lit]
  rw [List.getElem?_map] at hj
  have hlt : j < l.length := by
    rcases Nat.lt_or_ge j l.length with h | h
    · exact h
    · rw [List.getElem?_eq_none h] at hj; cases hj
  rw [h j hlt]
  simp [hlt] at hj
  simp [List.getD, hlt, hj]
/-- what Clone leaves: bytes in a block of their own -/
def CloneB (l : List Int) (w : World) (e : Ending) (w' : World) : Prop := ∃ v', e = .returned v' ∧ w'.ownsRow w.heap.size 5 1 v' l.length (l.map u8V) ∧ Below w.heap.size w w'
set_option maxRecDepth 100000 in
set_option maxHeartbeats 400000 in
theorem cloneB_is {w : World} {v : Value} {l : List Int} (h8 : l.length ≤ 140737488355328) (hm : At (Value.int .u8) 0 w v l) : Calls Tryz.prog 150 #[v] w (CloneB l w) := by
  obtain ⟨a, cap, rfl, hl, hcap, hm⟩ := hm
  have q22 : ∀ (w : World) (a : Option Addr) (n c n' c' : Nat), (binOp .eql 30 (.slice a n c) (.slice none n' c')).run Tryz.prog w = .ok (.bool a.isNone) w := fun w a n c n' c' => Lib.run_eql_slice_nil w _ _ a n c n' c' Tryz.underlying30
  cases a with
  | none =>
    have h0 : l = [] := by
      rcases hm with h | ⟨b, off, h, _⟩
      · exact h
      · cases h
    subst h0
    clear hm
    go_enter Tryz.func150, Tryz.ntmps150
    go_wp2
    go_ret
    exact ⟨_, rfl, World.ownsRow_nil _ _ _ _, Below.refl _ _⟩
  | some ad =>
    have hcl : ∀ j u, (l.map u8V)[j]? = some u → w.cell? (ad.add j) = some u := by
      rcases hm with h | ⟨b, off, hab, hlt, hc⟩
      · intro j u hj
        subst h
        simp at hj
      · simp only [Option.some.injEq] at hab
        subst hab
        exact fun j u hj => cells_u8 hc j u hj
    have hlen : (l.map u8V).length = l.length * 1 := by simp
    have hone := u8V_one l
    obtain ⟨n, hn⟩ : ∃ n, n = l.length := ⟨_, rfl⟩
    unfold CloneB
    rw [← hn] at h8 hl hlen ⊢
    generalize l.map u8V = cs at *
    have HC := Lib.hid hcl
    have HO := Lib.hid hone
    have H8 := Lib.hid h8
    clear hm hn hcl hone h8
    obtain ⟨i0, hi, hz0, hz1, hz2⟩ := info_parts info5
    go_enter Tryz.func150, Tryz.ntmps150
    go_wp2_with (at_builtin; go_loud (refine wpList_append_fresh _ rfl (.tmp 5) (.tmp 6) 30 rfl w.heap.size 5 i0 (.int .u8 0) 1 1 Tryz.underlying30 hi hz0 hz1 hz2 rfl (by decide) _ _ _ rfl (World.ownsRow_made w #[] 0 (Nat.le_refl _) (Nat.zero_le _) rfl) ad n _ cs rfl hlen (fun j u h => by have := HC.out j u h; rw [World.cell?_alloc_lt]; exact this; exact World.block_lt_of_cell? w _ this) HO.out (by have := H8.out; unfold maxLen; omega) (by have := H8.out; omega) (by simp) ?_))
    intro v' w1 hown hgrow hfresh
    have hb1 : Below w.heap.size w w1 := ((Below.refl _ _).alloc (Nat.le_refl _) _).grown hgrow (by simp) (fun g hg => by simp [Value.ownBlock] at hg; omega)
    clear hgrow hfresh
    rcases hown.2 with ⟨rfl, hn⟩ | ⟨g, cap', cur, rfl, hb, hg, hnc, hcm, hcs, htake⟩
    · go_wp2
      go_ret
      exact ⟨_, rfl, by simpa using hown, hb1⟩
    · clear hb hg hnc hcm hcs htake
      go_wp2
      go_ret
      exact ⟨_, rfl, by simpa using hown, hb1⟩
end Go.Proofs.YtafflkemnniegaaGreatDoor
namespace Go.Proofs.YtafflkemnniegaaGreatDoor
open Go.RowKit
set_option linter.unusedVariables false
set_option linter.unusedSimpArgs false
/-- block g holds just these bytes -/
def BK (w : World) (g : Nat) (l : List Int) : Prop := w.heap[g]? = some (.cells (l.map u8V).toArray 5 (0, 0))
theorem BK.lt {w : World} {g : Nat} {l : List Int} (h : BK w g l) : g < w.heap.size := (Array.getElem?_eq_some_iff.1 h).1
theorem BK.cell {w : World} {g : Nat} {l : List Int} (h : BK w g l) {i : Nat} (hi : i < l.length) : w.cell? ⟨g, i, none⟩ = some (u8V (l.getD i 0)) := by
  rw [cell_of_row w g i _ 5 (0, 0) h]
  simp [List.getD, hi]
theorem BK.keepB {w w' : World} {B g : Nat} {l : List Int} (h : BK w g l) (hb : Below B w w') (hB : g < B) : BK w' g l := (hb.block g hB).trans h
theorem BK.keep {w w' : World} {g : Nat} {l : List Int} (h : BK w g l) (hb : Below w.heap.size w w') : BK w' g l := h.keepB hb h.lt
theorem BK.kept {w w' : World} {g : Nat} {l : List Int} {row : Option Nat} (h : BK w g l) (hg : w.grownBy w' row) (hne : some g ≠ row) : BK w' g l := (hg.block g h.lt hne).trans h
theorem bk_new (w : World) (l : List Int) : BK (w.alloc (.cells (l.map u8V).toArray 5)) w.heap.size l := heap_alloc_new w _
/-- what a sector has -/
def sect (f : List Int) (k : Nat) : List Int := (f.drop (k * 64)).take 64
theorem sect_len {f : List Int} {k S : Nat} (hf : f.length = S * 64) (hk : k < S) : (sect f k).length = 64 := by
  unfold sect
  rw [List.length_take, List.length_drop, hf]
  omega
theorem sect_get {f : List Int} {k j : Nat} (hj : j < 64) : (sect f k).getD j 0 = f.getD (k * 64 + j) 0 := by
  simp [sect, List.getD_eq_getElem?_getD, List.getElem?_take, hj]
/-- A disk of S sectors: what lasts, what is read, what waits. -/
structure Dk (w : World) (D sb nb : Nat) (wv : Value) (m S : Nat) (s f : List Int) : Prop where
  c0 : w.cell? ⟨D, 0, none⟩ = some (.slice (some ⟨sb, 0, none⟩) (S * 64) (S * 64))
  c1 : w.cell? ⟨D, 1, none⟩ = some (.slice (some ⟨nb, 0, none⟩) (S * 64) (S * 64))
  c2 : w.cell? ⟨D, 2, none⟩ = some wv
  c3 : w.cell? ⟨D, 3, none⟩ = some (.int .i64 (-1))
  fz : ∀ j, w.frozen? ⟨D, j, none⟩ = false
  lt : D < w.heap.size
  sB : BK w sb s
  nB : BK w nb f
  ls : s.length = S * 64
  lf : f.length = S * 64
  own : ∃ xs, w.ownsRow 0 282 2 wv m xs
  n1 : D ≠ sb
  n2 : D ≠ nb
  n3 : sb ≠ nb
  o0 : wv.ownBlock ≠ some D
  o1 : wv.ownBlock ≠ some sb
  o2 : wv.ownBlock ≠ some nb
  S0 : 1 ≤ S
  S1 : S ≤ 256
section
variable {w w' : World} {D sb nb m S : Nat} {wv : Value} {s f : List Int}
theorem Dk.keep (h : Dk w D sb nb wv m S s f) (hb : Below w.heap.size w w') : Dk w' D sb nb wv m S s f := by
  have k : ∀ {o v}, w.cell? ⟨D, o, none⟩ = some v → w'.cell? ⟨D, o, none⟩ = some v := fun hc => (hb.cell (p := ⟨D, _, none⟩) h.lt).trans hc
  obtain ⟨xs, ho⟩ := h.own
  exact ⟨k h.c0, k h.c1, k h.c2, k h.c3, fun j => (hb.frozen (p := ⟨D, j, none⟩) h.lt).trans (h.fz j), Nat.lt_of_lt_of_le h.lt hb.size, h.sB.keep hb, h.nB.keep hb, h.ls, h.lf, ⟨xs, owns_keep ho hb⟩, h.n1, h.n2, h.n3, h.o0, h.o1, h.o2, h.S0, h.S1⟩
set_option maxRecDepth 100000 in
theorem goes_is (h : Dk w D sb nb wv m S s f) : Calls Tryz.prog 149 #[.pointer (some ⟨D, 0, none⟩)] w fun e w' => e = .returned (.bool true) ∧ w = w' := by
  have c3 := h.c3
  clear h
  go_enter Tryz.func149, Tryz.ntmps149
  go_wp2_with fail
  go_ret
  exact ⟨rfl, rfl⟩
set_option maxRecDepth 100000 in
theorem size_is (h : Dk w D sb nb wv m S s f) : Calls Tryz.prog 72 #[.pointer (some ⟨D, 0, none⟩)] w fun e w' => e = .returned (.int .i64 S) ∧ w = w' := by
  have c1 := h.c1
  have s1 := h.S1
  obtain ⟨n, hn⟩ : ∃ n, n = S * 64 := ⟨_, rfl⟩
  rw [← hn] at c1
  have q : (n : Int) / 64 = S := by omega
  have q2 : (n : Int).tdiv 64 = S := by rw [Int.tdiv_eq_ediv_of_nonneg (by omega)]; exact q
  have b0 : (n : Int) ≤ 16384 := by omega
  have y3 : IntKind.i64.wrap (S : Int) = S := IntWalk.i64_in _ (by omega)
  clear h hn
  go_enter Tryz.func72, Tryz.ntmps72
  go_wp2_with fail
  go_ret
  exact ⟨rfl, rfl⟩
set_option maxRecDepth 100000 in
set_option maxHeartbeats 400000 in
theorem read_is (h : Dk w D sb nb wv m S s f) {k : Nat} (hk : k < S) : Calls Tryz.prog 79 #[.pointer (some ⟨D, 0, none⟩), .int .i64 k] w fun e w' => ∃ v, e = .returned (.tuple #[v, .int .i64 0]) ∧ w'.ownsRow w.heap.size 5 1 v 64 ((sect f k).map u8V) ∧ Below w.heap.size w w' := by
  have c1 := h.c1
  have s1 := h.S1
  have HSZ := Lib.hid (size_is h)
  have hat : At (Value.int .u8) 0 w (.slice (some ⟨nb, k * 64, none⟩) 64 (S * 64 - k * 64)) (sect f k) := by
    have hl := sect_len h.lf hk
    refine ⟨_, _, by rw [hl], by omega, by unfold maxLen; omega, .inr ⟨nb, k * 64, rfl, h.nB.lt, fun i hi => ?_⟩⟩
    rw [hl] at hi
    rw [sect_get hi]
    exact h.nB.cell (by rw [h.lf]; omega)
  have HCL := Lib.hid (cloneB_is (by rw [sect_len h.lf hk]; omega) hat)
  have HLN := Lib.hid (sect_len h.lf hk)
  obtain ⟨n, hn⟩ : ∃ n, n = S * 64 := ⟨_, rfl⟩
  rw [← hn] at c1 HCL
  have i0 : ¬ (k : Int) < 0 := by omega
  have i1 : ¬ (S : Int) ≤ (k : Int) := by omega
  have b0 : (n : Int) ≤ 16384 := by omega
  have b1 : (k : Int) * 64 + 64 ≤ n := by omega
  have HN := Lib.hid hn
  clear h hat hn
  go_enter Tryz.func79, Tryz.ntmps79
  go_upto_region 3 with (go_at_call 72; refine HSZ.out.mono ?_; rintro e1 w1 ⟨rfl, rfl⟩)
  go_wp2_with (go_at_call 150; rw [show (k + 1) * 64 - k * 64 = 64 by omega]; refine HCL.out.mono ?_; rintro e2 w2 ⟨v2, rfl, ho2, hb2⟩; rw [HLN.out] at ho2)
  go_ret2
  exact ⟨v2, rfl, ho2, hb2⟩
end
end Go.Proofs.YtafflkemnniegaaGreatDoor
namespace Go.Proofs.YtafflkemnniegaaGreatDoor
open Go.RowKit
set_option linter.unusedVariables false
set_option linter.unusedSimpArgs false
def copyB := Builtin.copy_ #[30, 30] 3
theorem copyB_eq : Builtin.copy_ #[30, 30] 3 = copyB := rfl
theorem BK.setRow {w : World} {g : Nat} {l : List Int} (h : BK w g l) (l' : List Int) : BK (w.setRow g (l'.map u8V).toArray) g l' := setRow_heap w g _ _ 5 _ h
/-- bytes are copied into a block -/
theorem run_copyB {w : World} {g o dL dC sL sC sb so : Nat} {cur cs : List Int} (hg : BK w g cur) (hn : cs.length = Nat.min sL dL) (hs : ∀ i, i < cs.length → w.cell? ⟨sb, so + i, none⟩ = some (u8V (cs.getD i 0))) (hf : o + cs.length ≤ cur.length) :
    (copyB #[.slice (some ⟨g, o, none⟩) dL dC, .slice (some ⟨sb, so, none⟩) sL sC]).run Tryz.prog w = .ok (.int .i64 cs.length) (w.setRow g ((splice cur o cs).map u8V).toArray) := by
  have h := run_copy_row (P := Tryz.prog) w 30 30 3 5 g o dL dC ⟨sb, so, none⟩ sL sC (cur.map u8V).toArray 5 (cs.map u8V) Tryz.underlying30 (by kernel_rfl) hg (by simpa using hn) (cells_u8 hs) (by simpa using hf) (u8V_one cs)
  have e : ((cur.map u8V).toArray.toList.take o ++ cs.map u8V ++ (cur.map u8V).toArray.toList.drop (o + (cs.map u8V).length)).toArray = ((splice cur o cs).map u8V).toArray := by
    simp [splice, List.map_take, List.map_drop]
  rw [e] at h
  rw [← copyB_eq, h]
  simp [goInt]
def Dset (D sb nb : Nat) (wv : Value) : Nat → Prop := fun k => k = D ∨ k = sb ∨ k = nb ∨ wv.ownBlock = some k
theorem BK.upd {S : Nat → Prop} {w w' : World} {g : Nat} {l : List Int} (h : BK w g l) (hu : Upd S w w') (hn : ¬ S g) : BK w' g l := (hu.block g h.lt hn).trans h
section
variable {w w' : World} {D sb nb m S : Nat} {wv : Value} {s f : List Int}
theorem Dk.flushed (h : Dk w D sb nb wv m S s f) : Dk ((w.drew.setRow sb (f.map u8V).toArray).setCell ⟨D, 2, none⟩ (.slice none 0 0)) D sb nb (.slice none 0 0) 0 S f f := by
  have u1 : Upd (fun k => k = sb) w (w.drew.setRow sb (f.map u8V).toArray) := (Upd.drew w).trans (Upd.setRow w.drew _ rfl)
  have k : ∀ {o v}, w.cell? ⟨D, o, none⟩ = some v → (w.drew.setRow sb (f.map u8V).toArray).cell? ⟨D, o, none⟩ = some v := fun hc => (u1.cell h.lt h.n1).trans hc
  have u2 : Upd (fun k => k = D) (w.drew.setRow sb (f.map u8V).toArray) ((w.drew.setRow sb (f.map u8V).toArray).setCell ⟨D, 2, none⟩ (.slice none 0 0)) := Upd.set _ _ rfl
  refine ⟨set_off (by decide) (k h.c0), set_off (by decide) (k h.c1), set_same (k h.c2), set_off (by decide) (k h.c3), fun j => ?_, ?_, ?_, ?_, h.lf, h.lf, ⟨[], World.ownsRow_nil _ _ _ _⟩, h.n1, h.n2, h.n3, by simp [Value.ownBlock], by simp [Value.ownBlock], by simp [Value.ownBlock], h.S0, h.S1⟩
  · rw [World.frozen?_setCell]; exact (u1.frozen h.lt h.n1).trans (h.fz j)
  · exact Nat.lt_of_lt_of_le h.lt (Nat.le_trans u1.size u2.size)
  · have : BK w.drew sb s := h.sB
    exact (this.setRow f).upd u2 (fun e => h.n1 e.symm)
  · exact (h.nB.upd u1 (fun e => h.n3 e.symm)).upd u2 (fun e => h.n2 e.symm)
attribute [local go_sem ↓] copyB_eq
set_option maxRecDepth 100000 in
set_option maxHeartbeats 400000 in
theorem flush_is (h : Dk w D sb nb wv m S s f) : Calls Tryz.prog 78 #[.pointer (some ⟨D, 0, none⟩)] w fun e w' => e = .returned (.tuple #[]) ∧ Dk w' D sb nb (.slice none 0 0) 0 S f f ∧ Upd (fun k => k = D ∨ k = sb) w w' := by
  have c0 := h.c0
  have c1 := h.c1
  have c2 := h.c2
  have fz : (w.drew.setRow sb (f.map u8V).toArray).frozen? ⟨D, 2, none⟩ = false := (((Upd.drew (S := fun k => k = sb) w).trans (Upd.setRow w.drew _ rfl)).frozen h.lt h.n1).trans (h.fz 2)
  have c2' : (w.drew.setRow sb (f.map u8V).toArray).cell? ⟨D, 2, none⟩ = some wv := (((Upd.drew (S := fun k => k = sb) w).trans (Upd.setRow w.drew _ rfl)).cell h.lt h.n1).trans c2
  have HGO := Lib.hid (goes_is h)
  have HFL := Lib.hid h.flushed
  have HUP := Lib.hid (((Upd.drew (S := fun k => k = D ∨ k = sb) w).trans (Upd.setRow w.drew (f.map u8V).toArray (.inr rfl))).trans (Upd.set (i := 2) _ (.slice none 0 0) (.inl rfl)))
  have hcp : (copyB #[.slice (some ⟨sb, 0, none⟩) (S * 64) (S * 64), .slice (some ⟨nb, 0, none⟩) (S * 64) (S * 64)]).run Tryz.prog w.drew = .ok (.int .i64 ((S * 64 : Nat) : Int)) (w.drew.setRow sb (f.map u8V).toArray) := by
    have := run_copyB (w := w.drew) (g := sb) (o := 0) (dL := S * 64) (dC := S * 64) (sL := S * 64) (sC := S * 64) (sb := nb) (so := 0) (cur := s) (cs := f) h.sB (by rw [h.lf]; exact (Nat.min_self _).symm) (fun i hi => by rw [Nat.zero_add]; exact h.nB.cell hi) (by rw [h.lf, h.ls]; omega)
    have e : splice s 0 f = f := by
      have e1 := h.lf
      have e2 := h.ls
      simp [splice]
      omega
    rw [e, h.lf] at this
    exact this
  obtain ⟨n, hn⟩ : ∃ n, n = S * 64 := ⟨_, rfl⟩
  have b0 : (n : Int) ≤ 16384 := by have := h.S1; omega
  rw [← hn] at c0 c1 hcp
  generalize w.drew.setRow sb (f.map u8V).toArray = w1 at *
  clear h hn
  go_enter Tryz.func78, Tryz.ntmps78
  go_upto_region 1 with (go_at_call 149; refine HGO.out.mono ?_; rintro e1 w1 ⟨rfl, rfl⟩)
  go_region
  go_wp2_with fail
  (try simp only [Exit.inBlock, Exit.then]); first | (refine bodyPost_ret (results_none rfl _ _ _) rfl ?_) | (refine bodyPost_end (results_none rfl _ _ _) rfl ?_)
  exact ⟨rfl, HFL.out, HUP.out⟩
end
end Go.Proofs.YtafflkemnniegaaGreatDoor
namespace Go.Proofs.YtafflkemnniegaaGreatDoor
open Go.RowKit
set_option linter.unusedVariables false
set_option linter.unusedSimpArgs false
/-- names for loads and stores of whole rows: the walk doesn't open them -/
def ldR (T : Nat) (v : Value) : Sem Value := Instr.loadAt T v
def stR (T : Nat) (p v : Value) : Sem Unit := Instr.storeAt T p v
def ixR (T : Nat) (v i : Value) : Sem Value := Instr.index T v i
def bdR (T : Nat) (ps : Array (Nat × Value)) : Sem Value := Instr.build T ps
/-- a whole row in block b -/
def Row (w : World) (b : Nat) (T : Nat) (c : Array Value) : Prop := w.heap[b]? = some (.cells c T (0, 0))
/-- c with cs from o on -/
def putA (c : Array Value) (o : Nat) (cs : List Value) : Array Value := (c.toList.take o ++ cs ++ c.toList.drop (o + cs.length)).toArray
theorem putA_size {c : Array Value} {o : Nat} {cs : List Value} (h : o + cs.length ≤ c.size) : (putA c o cs).size = c.size := by
  simp [putA]; omega
theorem putA_get {c : Array Value} {o : Nat} {cs : List Value} (h : o + cs.length ≤ c.size) (j : Nat) : (putA c o cs)[j]? = if o ≤ j ∧ j < o + cs.length then cs[j - o]? else c[j]? := by
  simp only [putA, List.getElem?_toArray]
  split
  · rename_i hj
    rw [List.append_assoc, List.getElem?_append_right (by simp; omega), List.getElem?_append_left (by simp; omega)]
    simp
    congr 1
    omega
  · rename_i hj
    by_cases h1 : j < o
    · rw [List.append_assoc, List.getElem?_append_left (by simp; omega)]
      simp [List.getElem?_take, h1]
    · rw [List.getElem?_append_right (by simp; omega)]
      simp [List.getElem?_drop]
      congr 1
      omega
theorem putA_set {c : Array Value} {o : Nat} {v : Value} {cs : List Value} (h : o + 1 + cs.length ≤ c.size) : putA (c.setIfInBounds o v) (o + 1) cs = putA c o (v :: cs) := by
  apply Array.ext_getElem?
  intro j
  rw [putA_get (by simp; omega), putA_get (by simp; omega)]
  simp only [List.length_cons, Array.getElem?_setIfInBounds]
  by_cases h0 : j = o
  · subst h0
    rw [if_neg (by omega), if_pos rfl, if_pos (by omega), if_pos (by omega)]
    simp
  · by_cases h1 : o + 1 ≤ j ∧ j < o + 1 + cs.length
    · rw [if_pos h1, if_pos (by omega), show j - o = (j - (o + 1)) + 1 by omega]
      simp
    · rw [if_neg h1, if_neg (fun e => h0 e.symm), if_neg (by omega)]
section
variable {w w' : World} {b T : Nat} {c : Array Value}
theorem Row.lt (h : Row w b T c) : b < w.heap.size := (Array.getElem?_eq_some_iff.1 h).1
theorem Row.keepB {B : Nat} (h : Row w b T c) (hb : Below B w w') (hB : b < B) : Row w' b T c := (hb.block b hB).trans h
theorem Row.keep (h : Row w b T c) (hb : Below w.heap.size w w') : Row w' b T c := h.keepB hb h.lt
theorem Row.upd {S : Nat → Prop} (h : Row w b T c) (hu : Upd S w w') (hn : ¬ S b) : Row w' b T c := (hu.block b h.lt hn).trans h
theorem Row.kept {row : Option Nat} (h : Row w b T c) (hg : w.grownBy w' row) (hne : some b ≠ row) : Row w' b T c := (hg.block b h.lt hne).trans h
theorem Row.alloc (h : Row w b T c) (o : Obj) : Row (w.alloc o) b T c := h.keep ((Below.refl _ _).alloc (Nat.le_refl _) o)
theorem Row.drew (h : Row w b T c) : Row w.drew b T c := h
theorem Row.drewN (h : Row w b T c) (n : Nat) : Row (w.drewN n) b T c := h
theorem Row.cell (h : Row w b T c) (i : Nat) : w.cell? ⟨b, i, none⟩ = c[i]? := cell_of_row w b i _ T (0, 0) h
theorem Row.fz (h : Row w b T c) (i : Nat) : w.frozen? ⟨b, i, none⟩ = false := by
  unfold Row at h
  simp [World.frozen?, h]
theorem row_new (w : World) (T : Nat) (c : Array Value) : Row (w.alloc (.cells c T)) w.heap.size T c := heap_alloc_new w _
theorem Row.setRow (h : Row w b T c) (c' : Array Value) : Row (w.setRow b c') b T c' := setRow_heap w b _ _ T _ h
theorem Row.setRowO (h : Row w b T c) {d : Nat} (hd : d ≠ b) (c' : Array Value) : Row (w.setRow d c') b T c := (setRow_other w d b c' (fun e => hd e.symm)).trans h
theorem Row.setCell (h : Row w b T c) (i : Nat) (v : Value) : w.setCell ⟨b, i, none⟩ v = w.setRow b (c.setIfInBounds i v) := setCell_eq_setRow w b i c T (0, 0) v h
theorem Row.setCells : ∀ (cs : List Value) {w : World} {c : Array Value} {o : Nat}, Row w b T c → o + cs.length ≤ c.size → w.setCells b o cs = w.setRow b (putA c o cs)
  | [], w, c, o, h, _ => by
    have e : putA c o [] = c := by simp [putA]
    rw [e]
    exact (setRow_self w b c T (0, 0) h).symm
  | v :: cs, w, c, o, h, hl => by
    rw [World.setCells, h.setCell o v, Row.setCells cs (h.setRow _) (by simp at hl ⊢; omega), setRow_setRow, putA_set (by simp at hl; omega)]
theorem Row.range (h : Row w b T c) (o n : Nat) : w.rangeAt b o (c.extract o (o + n)).toList := World.rangeAt_of_block h o n
theorem Row.there (h : Row w b T c) {o n : Nat} (hn : o + n ≤ c.size) : w.there b o n := fun j hj => ⟨by rw [h.cell]; simp; omega, h.fz _⟩
/-- a part of a row by value -/
theorem Row.ld (h : Row w b T c) {o n U : Nat} {d : TypeDesc} (hn : o + n ≤ c.size) (hu : Tryz.prog.underlying U = some d) (hd : d.isRow = true) (hi : (Tryz.prog.info? U).map (·.size) = some n) :
    (ldR U (.pointer (some ⟨b, o, none⟩))).run Tryz.prog w = .ok (.agg (c.extract o (o + n))) w := by
  have := run_loadAt_mid (P := Tryz.prog) w b o U _ d (h.range o n) hu hd (by rw [hi]; simp; omega)
  rw [Array.toArray_toList] at this
  exact this
/-- all of it -/
theorem Row.ld0 (h : Row w b T c) {d : TypeDesc} (hu : Tryz.prog.underlying T = some d) (hd : d.isRow = true) (hi : (Tryz.prog.info? T).map (·.size) = some c.size) :
    (ldR T (.pointer (some ⟨b, 0, none⟩))).run Tryz.prog w = .ok (.agg c) w := by
  have := h.ld (o := 0) (n := c.size) (by omega) hu hd hi
  simpa using this
theorem Row.ldV (h : Row w b T c) {d : TypeDesc} (hu : Tryz.prog.underlying T = some d) (hd : d.isRow = true) (hi : (Tryz.prog.info? T).map (·.size) = some c.size) : (loadVar T ⟨b, 0, none⟩).run Tryz.prog w = .ok (.agg c) w := by
  have := run_loadVar_mid (P := Tryz.prog) w b 0 T _ d (h.range 0 c.size) hu hd (by rw [hi]; simp)
  rw [Array.toArray_toList] at this
  simpa using this
theorem Row.st (h : Row w b T c) {o U : Nat} {cs : Array Value} (hn : o + cs.size ≤ c.size) (hi : (Tryz.prog.info? U).map (·.size) = some cs.size) (h1 : cs.all (·.oneCell') = true) :
    (stR U (.pointer (some ⟨b, o, none⟩)) (.agg cs)).run Tryz.prog w = .ok () (w.setRow b (putA c o cs.toList)) := by
  rw [← h.setCells cs.toList (by simpa using hn)]
  exact run_storeAt_mid w b o U cs (h.there hn) hi h1
theorem Row.st0 (h : Row w b T c) {cs : Array Value} (hn : cs.size = c.size) (hi : (Tryz.prog.info? T).map (·.size) = some cs.size) (h1 : cs.all (·.oneCell') = true) :
    (stR T (.pointer (some ⟨b, 0, none⟩)) (.agg cs)).run Tryz.prog w = .ok () (w.setRow b cs) := by
  have := h.st (o := 0) (U := T) (cs := cs) (by omega) hi h1
  rw [this]
  have e : putA c 0 cs.toList = cs := ?_
  · rw [e]
  apply Array.ext_getElem?
  intro j
  rw [putA_get (by simp; omega)]
  simp only [Nat.zero_le, true_and, Nat.zero_add, Nat.sub_zero, Array.length_toList, Array.getElem?_toList]
  split
  · rfl
  · rw [Array.getElem?_eq_none (by omega), Array.getElem?_eq_none (by omega)]
end
theorem results_cell1 {fn : Func} {p : Tmp} {ty : TypeId} (h : fn.results = #[.cell p ty]) (tmps : Array Value) (P : Program) (w : World) :
    (results fn tmps).run P w = ((asAddr (tmps.getD p undef)).run P w).andThen fun a w1 => (loadVar ty a).run P w1 := by
  unfold results
  rw [h]
  simp
theorem results_cell_tmp {fn : Func} {p u : Tmp} {ty : TypeId} (h : fn.results = #[.cell p ty, .tmp u]) (tmps : Array Value) (P : Program) (w : World) :
    (results fn tmps).run P w = ((asAddr (tmps.getD p undef)).run P w).andThen fun a w1 => ((loadVar ty a).run P w1).andThen fun v w2 => .ok (.tuple #[v, tmps.getD u undef]) w2 := by
  unfold results
  rw [h]
  simp
theorem results_tmp4 {fn : Func} {t u x y : Tmp} (h : fn.results = #[.tmp t, .tmp u, .tmp x, .tmp y]) (tmps : Array Value) (P : Program) (w : World) :
    (results fn tmps).run P w = .ok (.tuple #[tmps.getD t undef, tmps.getD u undef, tmps.getD x undef, tmps.getD y undef]) w := by
  unfold results
  rw [h]
  simp
theorem st0_new (w : World) {T : Nat} {c cs : Array Value} (hn : cs.size = c.size) (hi : (Tryz.prog.info? T).map (·.size) = some cs.size) (h1 : cs.all (·.oneCell') = true) :
    (stR T (.pointer (some ⟨w.heap.size, 0, none⟩)) (.agg cs)).run Tryz.prog (w.alloc (.cells c T)) = .ok () (w.alloc (.cells cs T)) := by
  rw [(row_new w T c).st0 hn hi h1, World.setRow_alloc_new]
end Go.Proofs.YtafflkemnniegaaGreatDoor
namespace Go.Proofs.YtafflkemnniegaaGreatDoor
open Go.RowKit Go.Maps
set_option linter.unusedVariables false
set_option linter.unusedSimpArgs false
def pipA : Array Value := Array.replicate 16 (.pointer none)
set_option maxRecDepth 100000 in
set_option maxHeartbeats 400000 in
theorem pnew_is (w : World) : Calls Tryz.prog 32 #[] w fun e w' => e = .returned (.pointer (some ⟨w.heap.size, 0, none⟩)) ∧ w' = w.alloc (.cells pipA 206) := by
  go_enter Tryz.func32, Tryz.ntmps32
  go_wp2_with fail
  go_ret
  exact ⟨rfl, rfl⟩
set_option maxRecDepth 100000 in
set_option maxHeartbeats 400000 in
theorem wnew_is (w : World) : Calls Tryz.prog 33 #[.int .u32 0] w fun e w' => e = .returned (.pointer (some ⟨w.heap.size, 0, none⟩)) ∧ w' = w.alloc (.cells #[.int .u32 0, .slice none 0 0] 126) := by
  go_enter Tryz.func33, Tryz.ntmps33
  go_wp2_with fail
  go_ret
  exact ⟨rfl, rfl⟩
set_option maxRecDepth 100000 in
set_option maxHeartbeats 400000 in
theorem spnew_is (w : World) : Calls Tryz.prog 37 #[.int .i64 48, .int .i64 8] w fun e w' => e = .returned (.tuple #[.pointer (some ⟨w.heap.size + 1, 0, none⟩), .int .i64 0]) ∧ w' = (w.alloc (.map #[] 0)).alloc (.cells #[.int .i64 48, .int .i64 8, .int .i64 0, .slice none 0 0, .map (some w.heap.size)] 224) := by
  have hmm := @run_makeMap Tryz.prog
  go_enter Tryz.func37, Tryz.ntmps37
  go_wp2_with fail
  go_ret2
  exact ⟨rfl, rfl⟩
theorem grown_trans {a b c : World} {row : Option Nat} (h : a.grownBy b row) (k : b.grownBy c row) : a.grownBy c row := ⟨k.os.trans h.os, k.tape.trans h.tape, k.output.trans h.output, Nat.le_trans h.size k.size, fun i hi hne => (k.block i (Nat.lt_of_lt_of_le hi h.size) hne).trans (h.block i hi hne)⟩
theorem map_is_nil (w : World) : (binOp .eql 225 (.map none) (.map none)).run Tryz.prog w = .ok (.bool true) w := by kernel_rfl
set_option maxRecDepth 100000 in
set_option maxHeartbeats 400000 in
theorem spmake_is {w : World} {M so : Nat} (m4 : w.cell? ⟨M, 4, none⟩ = some (.map (some so))) (om : OMap w so 0 (fun _ => none)) : Calls Tryz.prog 38 #[.pointer (some ⟨M, 0, none⟩)] w fun e w' => e = .returned (.tuple #[.int .i64 1, .int .i64 0]) ∧ OMap w' so 1 (fun k => if k = 1 then some w.heap.size else none) ∧ IMap w' w.heap.size 0 (fun _ => none) ∧ w.grownBy w' (some so) := by
  have hmm := @run_makeMap Tryz.prog
  have l1 : (Instr.lookup 221 (.map (some so)) (.int .i64 1) false).run Tryz.prog w = .ok (.map none) w := om.look (by decide)
  have l2 := map_is_nil w
  have hg0 := World.grownBy_alloc w (.map #[] 0) none
  have hso : so < w.heap.size := by
    obtain ⟨D, hD, _⟩ := om
    exact hD.lt
  obtain ⟨w2, hup, om2, hg2⟩ := (om.kept hg0 (by simp)).put (k := 1) (by decide) (by unfold maxLen; omega) w.heap.size
  have hup : (Instr.mapUpdate 221 (.map (some so)) (.int .i64 1) (.map (some w.heap.size))).run Tryz.prog (w.alloc (.map #[] 0)) = .ok () w2 := hup
  have HI := Lib.hid ((IMap.made w).kept hg2 (by intro e; injection e with e; omega))
  have HG := Lib.hid (show w.grownBy w2 (some so) from grown_trans (World.grownBy_alloc w (.map #[] 0) (some so)) hg2)
  have HO := Lib.hid om2
  clear om om2 hg2 hg0 hso
  go_enter Tryz.func38, Tryz.ntmps38
  go_wp2_with fail
  refine wp_loop_rounds 1 ?_
  rw [rounds_succ]
  go_wp2_with fail
  go_ret2
  exact ⟨rfl, HO.out, HI.out, HG.out⟩
end Go.Proofs.YtafflkemnniegaaGreatDoor
