/- Sets of signals by whole rows: laws of loads and stores; the walk of Send. Sets of signals by whole rows: the walks of Hold, Next, Take, sigs. Sets of signals by whole rows: the walks of Take and sigs; sets compared. The walks of the kernel's living, between, fail. -/
import Derived.Test.YtnbhohaphmilmaaGreatDoorSigWalk
import Derived.Deep.WholeRow
import Derived.Laws.ResultCell
import Derived.Laws.StructEq
import Derived.ChangeKeysEq
import Derived.Test.YtnbhohaphmilmaaGreatDoorSigPlain
namespace Go.Proofs.YtnbhohaphmilmaaGreatDoor.SigLaw
set_option linter.unusedSimpArgs false
open Go.RowKit
set_option linter.unusedVariables false

def cellsA (g : G) : Array Value := #[.int .i64 g.p, .int .i64 g.m, .int .i64 (g.h 0), .int .i64 (g.h 1), .int .i64 (g.h 2), .int .i64 (g.h 3), .int .i64 (g.h 4), .int .i64 (g.h 5), .int .i64 (g.h 6), .int .i64 (g.h 7), .int .i64 (g.h 8), .int .i64 (g.h 9), .int .i64 (g.h 10), .int .i64 (g.h 11), .int .i64 (g.h 12), .int .i64 (g.h 13), .int .i64 (g.h 14), .int .i64 (g.h 15)]
theorem cellsA_size (g : G) : (cellsA g).size = 18 := rfl
theorem cellsA_one (g : G) : (cellsA g).all (·.oneCell') = true := by simp [cellsA, Value.oneCell']
def load58 (v : Value) : Sem Value := Instr.loadAt 76 v
def store58 (p v : Value) : Sem Unit := Instr.storeAt 76 p v
theorem load58_eq (v : Value) : Instr.loadAt 76 v = load58 v := rfl
theorem store58_eq (p v : Value) : Instr.storeAt 76 p v = store58 p v := rfl
theorem zero58 (w : World) : (zeroValue 76).run Tryz.prog w = .ok (.agg (cellsA zeroG)) w := Tryz.zeroValue76 w
theorem cells58 (g : G) : Value.cells (.agg (cellsA g)) = cellsA g := rfl
/-- a whole row of 18 cells in block b -/
def Row (w : World) (b : Nat) (g : G) : Prop := w.heap[b]? = some (.cells (cellsA g) 76 (0, 0))
section
variable {w : World} {b : Nat} {g : G}
theorem Row.lt (h : Row w b g) : b < w.heap.size := by
  rcases Nat.lt_or_ge b w.heap.size with q | q
  · exact q
  · unfold Row at h; rw [Array.getElem?_eq_none q] at h; cases h
theorem Row.load (h : Row w b g) : (load58 (.pointer (some ⟨b, 0, none⟩))).run Tryz.prog w = .ok (.agg (cellsA g)) w := by
  simp only [load58, Instr.loadAt, Instr.sureAddr, Sem.run_bind, Sem.run_pure, Result.andThen]
  exact run_loadVar_row w b 76 76 (cellsA g) (0, 0) _ h Tryz.underlying76 rfl (by kernel_rfl)
theorem Row.loadVar (h : Row w b g) : (Go.loadVar 76 ⟨b, 0, none⟩).run Tryz.prog w = .ok (.agg (cellsA g)) w :=
  run_loadVar_row w b 76 76 (cellsA g) (0, 0) _ h Tryz.underlying76 rfl (by kernel_rfl)
theorem Row.store (h : Row w b g) (g' : G) : (store58 (.pointer (some ⟨b, 0, none⟩)) (.agg (cellsA g'))).run Tryz.prog w = .ok () (w.setRow b (cellsA g')) := by
  simp only [store58, Instr.storeAt, Instr.sureAddr, Sem.run_bind, Sem.run_pure, Result.andThen]
  exact run_storeVar_row w b 76 76 (cellsA g) (cellsA g') h (by kernel_rfl) rfl (cellsA_one g')
theorem Row.cell (h : Row w b g) (i : Nat) : w.cell? ⟨b, i, none⟩ = (cellsA g)[i]? := cell_of_row w b i _ 76 (0, 0) h
theorem Row.c0 (h : Row w b g) : w.cell? ⟨b, 0, none⟩ = some (.int .i64 g.p) := h.cell 0
theorem Row.c1 (h : Row w b g) : w.cell? ⟨b, 1, none⟩ = some (.int .i64 g.m) := h.cell 1
theorem Row.ch (h : Row w b g) {k : Nat} (hk : k < 16) : w.cell? ⟨b, 2 + k, none⟩ = some (.int .i64 (g.h k)) := by
  rw [h.cell]
  have : k = 0 ∨ k = 1 ∨ k = 2 ∨ k = 3 ∨ k = 4 ∨ k = 5 ∨ k = 6 ∨ k = 7 ∨ k = 8 ∨ k = 9 ∨ k = 10 ∨ k = 11 ∨ k = 12 ∨ k = 13 ∨ k = 14 ∨ k = 15 := by omega
  rcases this with rfl | rfl | rfl | rfl | rfl | rfl | rfl | rfl | rfl | rfl | rfl | rfl | rfl | rfl | rfl | rfl <;> rfl
theorem Row.fz (h : Row w b g) (i : Nat) : w.frozen? ⟨b, i, none⟩ = false := by
  unfold Row at h
  simp [World.frozen?, h]
theorem Row.keepB {w' : World} {B : Nat} (h : Row w b g) (hb : Below B w w') (hB : b < B) : Row w' b g := (hb.block b hB).trans h
theorem Row.keep {w' : World} (h : Row w b g) (hb : Below w.heap.size w w') : Row w' b g := h.keepB hb h.lt
theorem Row.alloc (h : Row w b g) (o : Obj) : Row (w.alloc o) b g := h.keep ((Below.refl _ _).alloc (Nat.le_refl _) o)
theorem row_new (w : World) (g : G) : Row (w.alloc (.cells (cellsA g) 76)) w.heap.size g := heap_alloc_new w _
theorem Row.setRow (h : Row w b g) (g' : G) : Row (w.setRow b (cellsA g')) b g' := by
  unfold Row at *
  simp only [World.setRow, Array.getElem?_modify, if_true, h, Option.map_some]
theorem Row.setRowO (h : Row w b g) {c : Nat} (hc : c ≠ b) (C : Array Value) : Row (w.setRow c C) b g := by
  unfold Row at *
  simp only [World.setRow, Array.getElem?_modify]
  rw [if_neg hc]
  exact h
theorem Row.setC (h : Row w b g) {i : Nat} {g' : G} {v : Value} (he : (cellsA g).setIfInBounds i v = cellsA g') : Row (w.setCell ⟨b, i, none⟩ v) b g' := by
  unfold Row at *
  simp only [World.setCell, Array.getElem?_modify, if_true, h, Option.map_some, he, Option.isSome_none, Bool.false_eq_true, if_false]
theorem Row.setP (h : Row w b g) (x : Int) : Row (w.setCell ⟨b, 0, none⟩ (.int .i64 x)) b ⟨x, g.m, g.h⟩ := h.setC rfl
theorem Row.setM (h : Row w b g) (x : Int) : Row (w.setCell ⟨b, 1, none⟩ (.int .i64 x)) b ⟨g.p, x, g.h⟩ := h.setC rfl
theorem Row.setO (h : Row w b g) {c i : Nat} (hc : c ≠ b) (v : Value) : Row (w.setCell ⟨c, i, none⟩ v) b g := by
  unfold Row at *
  rw [Below.heap_setCell _ _ _ _ (by simpa using Ne.symm hc)]
  exact h
theorem below_setRow {B c : Nat} {u : World} (h : Below B u w) (hc : B ≤ c) (C : Array Value) : Below B u (w.setRow c C) :=
  h.trans ⟨rfl, rfl, rfl, by simp [World.setRow], fun k hk => by simp only [World.setRow, Array.getElem?_modify]; rw [if_neg (by omega)]⟩
end
theorem check_c (g : G) (w : World) (p0 : -2 ^ 63 ≤ g.p) (p1 : g.p < 2 ^ 63) (m0 : -2 ^ 63 ≤ g.m) (m1 : g.m < 2 ^ 63) : Calls Tryz.prog 189 #[.agg (cellsA g)] w (CheckPost g w) := check_is g w p0 p1 m0 m1
attribute [local go_sem ↓] load58_eq store58_eq zero58 cells58
theorem ne_zero {en : Int} (h : en ≠ 0) : (en != 0) = true := by simp [h]
theorem shl_is {P k : Nat} (hP : P < 65536) (hk : k ≤ 15) : bits .or .i64 (P : Int) (2 ^ k) = ((P ||| 1 <<< k : Nat) : Int) := by
  have h1 := one_shift k (by omega)
  rw [show ((2 : Int) ^ k) = ((1 <<< k : Nat) : Int) from by rw [Nat.one_shiftLeft]; norm_cast, i64_or _ _ (by omega) (by omega)]
theorem wrap_pow {k : Nat} (hk : k ≤ 15) : wrap64 (2 ^ k) = (2 : Int) ^ k := by
  have h1 := one_shift k (by omega)
  have e : ((2 : Int) ^ k) = ((1 <<< k : Nat) : Int) := by rw [Nat.one_shiftLeft]; norm_cast
  rw [e]
  generalize 1 <<< k = x at *
  unfold wrap64
  omega
/-- what a call with two blocks of its own made of them -/
structure Two (w w1 : World) (b c : Nat) (g g' : G) : Prop where
  B : Below w.heap.size w w1
  R : Row w1 b g
  Z : Row w1 c g'
  hb : w.heap.size ≤ b
  hc : w.heap.size ≤ c
  ne : b ≠ c
theorem two_new (w : World) (g : G) : Two w ((w.alloc (.cells (cellsA g) 76)).alloc (.cells (cellsA zeroG) 76)) w.heap.size (w.heap.size + 1) g zeroG :=
  ⟨Go.Joins.below_alloc2 _ _ _, (row_new w g).alloc _, by have := row_new (w.alloc (.cells (cellsA g) 76)) zeroG; rw [World.size_alloc] at this; exact this, Nat.le_refl _, by omega, by omega⟩
section
variable {w w1 w2 : World} {b c : Nat} {g g' : G}
theorem Two.keep (h : Two w w1 b c g g') (hb : Below w1.heap.size w1 w2) : Two w w2 b c g g' := ⟨h.B.trans (hb.mono h.B.size), h.R.keep hb, h.Z.keep hb, h.hb, h.hc, h.ne⟩
theorem Two.drew (h : Two w w1 b c g g') : Two w w1.drew b c g g' := h.keep (Below.refl _ _).drew
theorem Two.store (h : Two w w1 b c g g') (g2 : G) : Two w (w1.setRow c (cellsA g2)) b c g g2 := ⟨below_setRow h.B h.hc _, h.R.setRowO h.ne.symm _, h.Z.setRow g2, h.hb, h.hc, h.ne⟩
theorem Two.setP (h : Two w w1 b c g g') (x : Int) : Two w (w1.setCell ⟨b, 0, none⟩ (.int .i64 x)) b c ⟨x, g.m, g.h⟩ g' := ⟨h.B.setCell h.hb _, h.R.setP x, h.Z.setO h.ne _, h.hb, h.hc, h.ne⟩
theorem Two.setM (h : Two w w1 b c g g') (x : Int) : Two w (w1.setCell ⟨b, 1, none⟩ (.int .i64 x)) b c ⟨g.p, x, g.h⟩ g' := ⟨h.B.setCell h.hb _, h.R.setM x, h.Z.setO h.ne _, h.hb, h.hc, h.ne⟩
end
/-- sizes of the two words -/
def BB (g : G) : Prop := (-2 ^ 63 ≤ g.p ∧ g.p < 2 ^ 63) ∧ -2 ^ 63 ≤ g.m ∧ g.m < 2 ^ 63
theorem check_b (g : G) (w : World) (h : BB g) : Calls Tryz.prog 189 #[.agg (cellsA g)] w (CheckPost g w) := check_c g w h.1.1 h.1.2 h.2.1 h.2.2
def SendPost (g : G) (n : Int) (w : World) (e : Ending) (w' : World) : Prop :=
  ∃ en g', e = .returned (.tuple #[.agg (cellsA g'), .int .i64 en]) ∧ Below w.heap.size w w' ∧ ((en = 0 ∧ ∃ (k P M : Nat), n = k ∧ 1 ≤ k ∧ k ≤ 15 ∧ Right g P M ∧ g' = ⟨(sentP g P k : Nat), g.m, g.h⟩) ∨ (en ≠ 0 ∧ g' = zeroG ∧ ¬ (good g ∧ 1 ≤ n ∧ n ≤ 15)))
theorem sendPost_bad {g : G} {n : Int} {w w' : World} {en : Int} (he : en ≠ 0) (h : ¬ (good g ∧ 1 ≤ n ∧ n ≤ 15)) (hb : Below w.heap.size w w') : SendPost g n w (.returned (.tuple #[.agg (cellsA zeroG), .int .i64 en])) w' :=
  ⟨en, zeroG, rfl, hb, .inr ⟨he, rfl, h⟩⟩

set_option maxRecDepth 100000 in
set_option maxHeartbeats 1000000 in
theorem send_is (g : G) (n : Int) (w : World) (hB : BB g) : Calls Tryz.prog 102 #[.agg (cellsA g), .int .i64 n] w (SendPost g n w) := by
  have HC := Lib.hid (check_b g ((w.alloc (.cells (cellsA g) 76)).alloc (.cells (cellsA zeroG) 76)) hB)
  have HT := Lib.hid (two_new w g)
  have hl := (two_new w g).R.load
  clear hB
  go_enter Tryz.func102, Tryz.ntmps102
  go_wp2_with fail
  refine HC.out.mono ?_
  rintro e w1 ⟨en, rfl, hb1, hcase⟩
  have HT1 := Lib.hid (HT.out.keep hb1)
  clear hb1 hl HC HT
  have hz := fun g' => HT1.out.Z.store g'
  rcases hcase with ⟨rfl, hg⟩ | ⟨hen, hg⟩
  · by_cases hk : 1 ≤ n ∧ n ≤ 15
    · obtain ⟨k, rfl⟩ : ∃ k : Nat, n = k := ⟨n.toNat, by omega⟩
      have hk1 : 1 ≤ k := by omega
      have hk2 : k ≤ 15 := by omega
      have hdec : (decide (1 ≤ (k : Int)) && decide ((k : Int) ≤ 15)) = true := by simp; omega
      obtain ⟨P, M, hr⟩ := hg
      have HR := Lib.hid hr
      have hgp := Lib.hid hr.p
      have hpl := Lib.hid hr.pl
      have HK := Lib.hid (And.intro hk1 hk2)
      have nk := HT1.out.R.ch (k := k) (by omega)
      have hl := HT1.out.R.load
      have hk16 : (k : Int) < 16 := by omega
      have hk0 : 0 ≤ (k : Int) := by omega
      clear hr hk hk1 hk2
      have hdeaf : (Hid (deaf g k) ∧ ((g.h k == 1) = true ∨ ((g.h k == 1) = false ∧ ((k : Int) == 7) = true ∧ (g.h k == 0) = true))) ∨ (Hid (¬ deaf g k) ∧ (((g.h k == 1) = false ∧ ((k : Int) == 7) = false) ∨ ((g.h k == 1) = false ∧ ((k : Int) == 7) = true ∧ (g.h k == 0) = false))) := by
        by_cases h1 : g.h k = 1
        · exact .inl ⟨.inl h1, .inl (by simp [h1])⟩
        · by_cases h7 : k = 7
          · by_cases h0 : g.h k = 0
            · exact .inl ⟨.inr ⟨h7, h0⟩, .inr ⟨by simp [h1], by simp [h7], by simp [h0]⟩⟩
            · exact .inr ⟨fun h => h.elim h1 fun h => h0 h.2, .inr ⟨by simp [h1], by simp [h7], by simp [h0]⟩⟩
          · exact .inr ⟨fun h => h.elim h1 fun h => h7 h.1, .inl ⟨by simp [h1], by simp; omega⟩⟩
      go_wp2_with fail
      refine (number_any k _).mono ?_
      rintro e w2 ⟨rfl, rfl⟩
      rw [hdec]
      generalize g.h k = x at *
      rcases hdeaf with ⟨HD, hd | ⟨d1, d2, d3⟩⟩ | ⟨HD, hd⟩
      · go_wp2
        refine bodyPost_ret (v := .tuple #[.agg (cellsA g), .int .i64 0]) (by rw [results_cell_tmp rfl]; simp [asAddr, Result.andThen, (HT1.out.store g).Z.loadVar]) rfl ⟨0, g, rfl, (HT1.out.store g).B, .inl ⟨rfl, k, P, M, rfl, HK.out.1, HK.out.2, HR.out, ?_⟩⟩
        rw [sentP_pos HD.out, ← hgp.out]
      · go_wp2
        refine bodyPost_ret (v := .tuple #[.agg (cellsA g), .int .i64 0]) (by rw [results_cell_tmp rfl]; simp [asAddr, Result.andThen, (HT1.out.store g).Z.loadVar]) rfl ⟨0, g, rfl, (HT1.out.store g).B, .inl ⟨rfl, k, P, M, rfl, HK.out.1, HK.out.2, HR.out, ?_⟩⟩
        rw [sentP_pos HD.out, ← hgp.out]
      · have e1 := shl_is hpl.out HK.out.2
        rw [← hgp.out, ← wrap_pow HK.out.2] at e1
        have c0 := HT1.out.R.c0
        have f0 := HT1.out.R.fz 0
        obtain ⟨g2, hg2⟩ : ∃ g2 : G, g2 = ⟨((P ||| 1 <<< k : Nat) : Int), g.m, g.h⟩ := ⟨_, rfl⟩
        have HT2 := Lib.hid (HT1.out.setP ((P ||| 1 <<< k : Nat) : Int)).drew
        rw [← hg2] at HT2
        have HG2 := Lib.hid hg2
        clear hg2
        clear hz hl
        rcases hd with ⟨d1, d2⟩ | ⟨d1, d2, d3⟩
        · go_wp2_with fail
          go_region
          clear nk c0 f0
          revert HT2
          generalize hw2 : World.drew _ = w2
          intro HT2
          clear hw2
          have hl := HT2.out.R.load
          have hz := fun g' => HT2.out.Z.store g'
          go_wp2
          refine bodyPost_ret (v := .tuple #[.agg (cellsA g2), .int .i64 0]) (by rw [results_cell_tmp rfl]; simp [asAddr, Result.andThen, (HT2.out.store g2).Z.loadVar]) rfl ⟨0, g2, rfl, (HT2.out.store g2).B, .inl ⟨rfl, k, P, M, rfl, HK.out.1, HK.out.2, HR.out, ?_⟩⟩
          rw [sentP_neg HD.out]; exact HG2.out
        · go_wp2_with fail
          go_region
          clear nk c0 f0
          revert HT2
          generalize hw2 : World.drew _ = w2
          intro HT2
          clear hw2
          have hl := HT2.out.R.load
          have hz := fun g' => HT2.out.Z.store g'
          go_wp2
          refine bodyPost_ret (v := .tuple #[.agg (cellsA g2), .int .i64 0]) (by rw [results_cell_tmp rfl]; simp [asAddr, Result.andThen, (HT2.out.store g2).Z.loadVar]) rfl ⟨0, g2, rfl, (HT2.out.store g2).B, .inl ⟨rfl, k, P, M, rfl, HK.out.1, HK.out.2, HR.out, ?_⟩⟩
          rw [sentP_neg HD.out]; exact HG2.out
    · have hdec : (decide (1 ≤ n) && decide (n ≤ 15)) = false := by simp; omega
      have HK := Lib.hid hk
      clear hk
      go_wp2_with fail
      refine (number_any n _).mono ?_
      rintro e w2 ⟨rfl, rfl⟩
      rw [hdec]
      clear hdec
      go_wp2
      exact bodyPost_ret (v := .tuple #[.agg (cellsA zeroG), .int .i64 1]) (by rw [results_cell_tmp rfl]; simp [asAddr, Result.andThen, (HT1.out.store zeroG).Z.loadVar]) rfl (sendPost_bad (by decide) (fun h => HK.out h.2) (HT1.out.store zeroG).B)
  · have hen' := ne_zero hen
    have HE := Lib.hid hen
    have HG := Lib.hid hg
    clear hen hg
    go_wp2
    exact bodyPost_ret (v := .tuple #[.agg (cellsA zeroG), .int .i64 en]) (by rw [results_cell_tmp rfl]; simp [asAddr, Result.andThen, (HT1.out.store zeroG).Z.loadVar]) rfl (sendPost_bad HE.out (fun h => HG.out h.1) (HT1.out.store zeroG).B)
end Go.Proofs.YtnbhohaphmilmaaGreatDoor.SigLaw
namespace Go.Proofs.YtnbhohaphmilmaaGreatDoor.SigLaw
set_option linter.unusedSimpArgs false
open Go.RowKit
set_option linter.unusedVariables false
attribute [local go_sem ↓] load58_eq store58_eq zero58 cells58

def HoldPost (g : G) (m : Nat) (w : World) (e : Ending) (w' : World) : Prop :=
  ∃ en g', e = .returned (.tuple #[.agg (cellsA g'), .int .i64 en]) ∧ Below w.heap.size w w' ∧ ((en = 0 ∧ good g ∧ g' = ⟨g.p, (less m 512 : Nat), g.h⟩) ∨ (en ≠ 0 ∧ ¬ good g))
set_option maxRecDepth 100000 in
set_option maxHeartbeats 1000000 in
theorem hold_is (g : G) (m : Nat) (w : World) (hB : BB g) (hm : m < 65536) (hm0 : m.testBit 0 = false) : Calls Tryz.prog 177 #[.agg (cellsA g), .int .i64 m] w (HoldPost g m w) := by
  have HC := Lib.hid (check_b g ((w.alloc (.cells (cellsA g) 76)).alloc (.cells (cellsA zeroG) 76)) hB)
  have HT := Lib.hid (two_new w g)
  have hl := (two_new w g).R.load
  have hf : (bits .andNot .i64 (m : Int) 65534 != 0) = false := by have := nat_fit m hm hm0; unfold fitB at this; simpa using this
  have h5 : bits .andNot .i64 (m : Int) 512 = ((less m 512 : Nat) : Int) := i64_andNot m 512 (by omega) (by decide)
  clear hB hm hm0
  go_enter Tryz.func177, Tryz.ntmps177
  go_wp2_with fail
  refine HC.out.mono ?_
  rintro e w1 ⟨en, rfl, hb1, hcase⟩
  have HT1 := Lib.hid (HT.out.keep hb1)
  clear hb1 hl HC HT
  rcases hcase with ⟨rfl, hg⟩ | ⟨hen, hg⟩
  · have HG := Lib.hid hg
    obtain ⟨g2, hg2⟩ : ∃ g2 : G, g2 = ⟨g.p, ((less m 512 : Nat) : Int), g.h⟩ := ⟨_, rfl⟩
    have HT2 := Lib.hid (HT1.out.setM ((less m 512 : Nat) : Int))
    rw [← hg2] at HT2
    have HG2 := Lib.hid hg2
    have c1 := HT1.out.R.c1
    have f1 := HT1.out.R.fz 1
    have hl := HT2.out.R.load
    have hz := HT2.out.Z.store g2
    clear hg hg2
    go_wp2
    exact bodyPost_ret (v := .tuple #[.agg (cellsA g2), .int .i64 0]) (by rw [results_cell_tmp rfl]; simp [asAddr, Result.andThen, (HT2.out.store g2).Z.loadVar]) rfl ⟨0, g2, rfl, (HT2.out.store g2).B, .inl ⟨rfl, HG.out, HG2.out⟩⟩
  · have hen' := ne_zero hen
    have hz := fun g' => HT1.out.Z.store g'
    have HE := Lib.hid hen
    have HG := Lib.hid hg
    clear hen hg
    go_wp2
    exact bodyPost_ret (v := .tuple #[.agg (cellsA zeroG), .int .i64 en]) (by rw [results_cell_tmp rfl]; simp [asAddr, Result.andThen, (HT1.out.store zeroG).Z.loadVar]) rfl ⟨en, zeroG, rfl, (HT1.out.store zeroG).B, .inr ⟨HE.out, HG.out⟩⟩

def NextPost (g : G) (w : World) (e : Ending) (w' : World) : Prop :=
  ∃ n en : Int, e = .returned (.tuple #[.int .i64 n, .int .i64 en]) ∧ Below w.heap.size w w' ∧
    ((en ≠ 0 ∧ ¬ good g) ∨ ∃ P M, Right g P M ∧ ((en = 0 ∧ ∃ k : Nat, n = k ∧ 1 ≤ k ∧ k ≤ 15 ∧ P.testBit k = true ∧ (k = 9 ∨ M.testBit k = false) ∧ (P.testBit 9 = true → k = 9)) ∨ (en = 4 ∧ P.testBit 9 = false ∧ ∀ k, 1 ≤ k → k ≤ 15 → P.testBit k = true → M.testBit k = true)))
set_option maxRecDepth 100000 in
set_option maxHeartbeats 1000000 in
theorem next_is (g : G) (w : World) (hB : BB g) : Calls Tryz.prog 103 #[.agg (cellsA g)] w (NextPost g w) := by
  have HC := Lib.hid (check_b g (w.alloc (.cells (cellsA g) 76)) hB)
  have HN := Lib.hid (row_new w g)
  have HB1 := Lib.hid (Go.Joins.below_alloc1 w (.cells (cellsA g) 76))
  have hl := (row_new w g).load
  clear hB
  go_enter Tryz.func103, Tryz.ntmps103
  go_wp2_with fail
  refine HC.out.mono ?_
  rintro e w1 ⟨en, rfl, hb1, hcase⟩
  have HN1 := Lib.hid (HN.out.keep hb1)
  have HW := Lib.hid (HB1.out.trans (hb1.mono HB1.out.size))
  clear hb1 hl HC HN HB1
  rcases hcase with ⟨rfl, P, M, hr⟩ | ⟨hen, hg⟩
  · have HR := Lib.hid hr
    have c0 := HN1.out.c0
    have c1 := HN1.out.c1
    rw [hr.p] at c0
    rw [hr.m] at c1
    have h9 : (bits .and .i64 ((P : Int) / 512) 1 == 1) = P.testBit 9 := bit_eq P 9 hr.pl
    cases h : P.testBit 9
    · have H9 := Lib.hid h
      rw [h] at h9
      have hx : bits .andNot .i64 (P : Int) (M : Int) = ((less P M : Nat) : Int) := i64_andNot P M (by have := hr.pl; omega) (by have := hr.ml; omega)
      have HX := Lib.hid (less_lt P M hr.pl)
      have hbits : Hid (∀ k, (less P M).testBit k = (P.testBit k && !M.testBit k)) := Lib.hid (fun k => less_bit P M k)
      generalize less P M = x at *
      clear hr h
      go_wp2_with fail
      go_loop [6] (fun i => ∃ k : Nat, 1 ≤ k ∧ k ≤ 16 ∧ i = .int .i64 k ∧ Hid (∀ j, 1 ≤ j → j < k → x.testBit j = false)) (fun i => 16 - (intOf i).toNat)
      case atStart => exact ⟨1, by omega, by omega, rfl, fun j h1 h2 => absurd h2 (by omega)⟩
      case round =>
        obtain ⟨k, k1, k2, rfl, HK⟩ := hrel
        by_cases hlt : k ≤ 15
        · have hb := bit_eq x k HX.out
          have hki : (k : Int) ≤ 15 := by omega
          have hk64 : (k : Int) < 64 := by omega
          have hk0 : ¬ ((k : Int) < 0) := by omega
          have HKK := Lib.hid (And.intro k1 hlt)
          clear hlt
          cases hq : x.testBit k
          · have HQ := Lib.hid hq
            rw [hq] at hb
            clear hq
            go_wp2
            go_round
            case rel =>
              refine ⟨k + 1, by omega, by omega, rfl, fun j h1 h2 => ?_⟩
              rcases Nat.lt_succ_iff_lt_or_eq.1 h2 with q | rfl
              · exact HK.out j h1 q
              · exact HQ.out
            case measure => simp [intOf]; omega
          · have HQ := Lib.hid hq
            rw [hq] at hb
            clear hq
            go_wp2
            go_ret2
            have hbt := hbits.out k
            rw [HQ.out] at hbt
            have hP : P.testBit k = true := by revert hbt; cases P.testBit k <;> simp
            have hM : M.testBit k = false := by revert hbt; cases M.testBit k <;> simp
            exact ⟨k, 0, rfl, HW.out, .inr ⟨P, M, HR.out, .inl ⟨rfl, k, rfl, HKK.out.1, HKK.out.2, hP, .inr hM, fun h => by rw [H9.out] at h; cases h⟩⟩⟩
        · obtain rfl : k = 16 := by omega
          go_wp2
          go_ret2
          refine ⟨0, 4, rfl, HW.out, .inr ⟨P, M, HR.out, .inr ⟨rfl, H9.out, fun k h1 h2 h3 => ?_⟩⟩⟩
          have hbt := hbits.out k
          rw [HK.out k h1 (by omega), h3] at hbt
          revert hbt; cases M.testBit k <;> simp
    · have H9 := Lib.hid h
      rw [h] at h9
      clear hr h
      go_wp2
      go_ret2
      exact ⟨9, 0, rfl, HW.out, .inr ⟨P, M, HR.out, .inl ⟨rfl, 9, rfl, by decide, by decide, H9.out, .inl rfl, fun _ => rfl⟩⟩⟩
  · have hen' := ne_zero hen
    have HE := Lib.hid hen
    have HG := Lib.hid hg
    clear hen hg
    go_wp2
    go_ret2
    exact ⟨0, en, rfl, HW.out, .inl ⟨HE.out, HG.out⟩⟩
end Go.Proofs.YtnbhohaphmilmaaGreatDoor.SigLaw
namespace Go.Proofs.YtnbhohaphmilmaaGreatDoor.SigLaw
set_option linter.unusedSimpArgs false
open Go.RowKit
set_option linter.unusedVariables false
theorem part_at (g : G) (i : Nat) (hi : i < 16) (w : World) : (part 3 #[.int .i64 (g.h 0), .int .i64 (g.h 1), .int .i64 (g.h 2), .int .i64 (g.h 3), .int .i64 (g.h 4), .int .i64 (g.h 5), .int .i64 (g.h 6), .int .i64 (g.h 7), .int .i64 (g.h 8), .int .i64 (g.h 9), .int .i64 (g.h 10), .int .i64 (g.h 11), .int .i64 (g.h 12), .int .i64 (g.h 13), .int .i64 (g.h 14), .int .i64 (g.h 15)] (i * 1)).run Tryz.prog w = .ok (.int .i64 (g.h i)) w := by
  have : i = 0 ∨ i = 1 ∨ i = 2 ∨ i = 3 ∨ i = 4 ∨ i = 5 ∨ i = 6 ∨ i = 7 ∨ i = 8 ∨ i = 9 ∨ i = 10 ∨ i = 11 ∨ i = 12 ∨ i = 13 ∨ i = 14 ∨ i = 15 := by omega
  rcases this with rfl | rfl | rfl | rfl | rfl | rfl | rfl | rfl | rfl | rfl | rfl | rfl | rfl | rfl | rfl | rfl <;> simp [part, go_sem]
theorem items_same (w : World) (h : Nat → Int) (A : Array Value) (hA : ∀ i, i < 16 → ∀ w, (part 3 A (i * 1)).run Tryz.prog w = .ok (.int .i64 (h i)) w) : ∀ is : List Nat, (∀ i ∈ is, i < 16) → (Op.eqItems 9998 3 1 A A is).run Tryz.prog w = .ok true w := by
  intro is
  induction is with
  | nil => intro _; simp [Op.eqItems]
  | cons i is ih =>
    intro hi
    have h1 := hA i (hi i (by simp)) w
    have h2 := ih (fun j hj => hi j (by simp [hj]))
    simp only [Op.eqItems, Sem.run_bind, h1, Result.andThen_ok]
    have h3 := run_equalIn_int w 9997 3 .i64 .i64 (h i) (h i) Tryz.underlying3
    simp only [show (9997 : Nat) + 1 = 9998 from rfl] at h3
    simp [h2, h3]
theorem eq56 (g : G) (w : World) : (Op.equalIn 9999 74 (arrG g) (arrG g)).run Tryz.prog w = .ok true w := by
  rw [show (9999 : Nat) = 9998 + 1 from rfl, run_equalIn_array w 9998 _ _ Tryz.underlying74 (i := Tryz.t3) (by kernel_rfl), show Tryz.prog.cellsOf 3 = 1 from by kernel_rfl]
  exact items_same w g.h _ (fun i hi w => part_at g i hi w) _ (fun i hi => by simpa using hi)
set_option maxRecDepth 100000 in
set_option maxHeartbeats 1000000 in
theorem eq58 (g : G) (w : World) : (Op.equalIn 10000 76 (.agg (cellsA g)) (.agg (cellsA g))).run Tryz.prog w = .ok true w := by
  have h := eq56 g w
  unfold cellsA
  simp [go_sem, h]
attribute [local go_sem ↓] load58_eq store58_eq zero58 cells58
theorem results_cell4 {fn : Func} {p u x y : Tmp} {ty : TypeId} (h : fn.results = #[.cell p ty, .tmp u, .tmp x, .tmp y]) (tmps : Array Value) (P : Program) (w : World) :
    (results fn tmps).run P w = ((asAddr (tmps.getD p undef)).run P w).andThen fun a w1 => ((loadVar ty a).run P w1).andThen fun v w2 => .ok (.tuple #[v, tmps.getD u undef, tmps.getD x undef, tmps.getD y undef]) w2 := by
  unfold results
  rw [h]
  simp
def TakePost (g : G) (P M : Nat) (w : World) (e : Ending) (w' : World) : Prop :=
  Below w.heap.size w w' ∧ ((∃ v n hw, e = .returned (.tuple #[.agg (cellsA v), .int .i64 n, .int .i64 hw, .int .i64 4])) ∨ ∃ k : Nat, 1 ≤ k ∧ k ≤ 15 ∧ P.testBit k = true ∧ e = .returned (.tuple #[.agg (cellsA ⟨(less P (1 <<< k) : Nat), g.m, g.h⟩), .int .i64 k, .int .i64 (g.h k), .int .i64 0]))
set_option maxRecDepth 100000 in
set_option maxHeartbeats 1000000 in
theorem take_is (g : G) (P M : Nat) (w : World) (hB : BB g) (hr : Right g P M) : Calls Tryz.prog 86 #[.agg (cellsA g)] w (TakePost g P M w) := by
  have HC := Lib.hid (next_is g ((w.alloc (.cells (cellsA g) 76)).alloc (.cells (cellsA zeroG) 76)) hB)
  have HT := Lib.hid (two_new w g)
  have hl := (two_new w g).R.load
  have HR := Lib.hid hr
  clear hB hr
  go_enter Tryz.func86, Tryz.ntmps86
  go_wp2_with fail
  refine HC.out.mono ?_
  rintro e w1 ⟨n, en, rfl, hb1, hcase⟩
  have HT1 := Lib.hid (HT.out.keep hb1)
  clear hb1 hl HC HT
  have hcase2 : en = 4 ∨ (en = 0 ∧ ∃ k : Nat, n = k ∧ 1 ≤ k ∧ k ≤ 15 ∧ P.testBit k = true) := by
    rcases hcase with ⟨_, h⟩ | ⟨P', M', hr', ⟨h0, k, hk, k1, k2, hP, -, -⟩ | ⟨h4, -⟩⟩
    · exact absurd ⟨P, M, HR.out⟩ h
    · have : P' = P := by have a := hr'.p; have b := HR.out.p; omega
      subst this
      exact .inr ⟨h0, k, hk, k1, k2, hP⟩
    · exact .inl h4
  clear hcase
  rcases hcase2 with rfl | ⟨rfl, k, rfl, k1, k2, hP⟩
  · have hz := fun g' => HT1.out.Z.store g'
    go_wp2
    exact bodyPost_ret (v := .tuple #[.agg (cellsA zeroG), .int .i64 0, .int .i64 0, .int .i64 4]) (by rw [results_cell4 rfl]; simp [asAddr, Result.andThen, (HT1.out.store zeroG).Z.loadVar]) rfl ⟨(HT1.out.store zeroG).B, .inl ⟨zeroG, 0, 0, rfl⟩⟩
  · have c0 := HT1.out.R.c0
    have f0 := HT1.out.R.fz 0
    have hgp := HR.out.p
    have e1 : bits .andNot .i64 g.p (wrap64 (2 ^ k)) = ((less P (1 <<< k) : Nat) : Int) := by
      rw [hgp, wrap_pow k2, show ((2 : Int) ^ k) = ((1 <<< k : Nat) : Int) from by rw [Nat.one_shiftLeft]; norm_cast]
      exact i64_andNot P (1 <<< k) (by have := HR.out.pl; omega) (by have := one_shift k (by omega); omega)
    obtain ⟨g2, hg2⟩ : ∃ g2 : G, g2 = ⟨((less P (1 <<< k) : Nat) : Int), g.m, g.h⟩ := ⟨_, rfl⟩
    have HT2 := Lib.hid (HT1.out.setP ((less P (1 <<< k) : Nat) : Int)).drew
    rw [← hg2] at HT2
    have HG2 := Lib.hid hg2
    have hgh : g2.h k = g.h k := by rw [hg2]
    have HGH := Lib.hid hgh
    have HP := Lib.hid hP
    have HK := Lib.hid (And.intro k1 k2)
    have hk16 : (k : Int) < 16 := by omega
    have hk0 : 0 ≤ (k : Int) := by omega
    clear hg2 hgh hP k1 k2 hgp
    go_wp2_with fail
    go_region
    clear c0 f0
    revert HT2
    generalize hw2 : World.drew _ = w2
    intro HT2
    clear hw2
    have hl := HT2.out.drew.R.load
    have hz := HT2.out.drew.Z.store g2
    have nk := HT2.out.drew.R.ch (k := k) (by have := HK.out; omega)
    rw [HGH.out] at nk
    have nk2 := (HT2.out.drew.store g2).R.ch (k := k) (by have := HK.out; omega)
    rw [HGH.out] at nk2
    go_wp2_with fail
    go_region
    go_wp2
    refine bodyPost_ret (v := .tuple #[.agg (cellsA g2), .int .i64 k, .int .i64 (g.h k), .int .i64 0]) (by rw [results_cell4 rfl]; simp [asAddr, Result.andThen, (HT2.out.drew.store g2).Z.loadVar]) rfl ⟨(HT2.out.drew.store g2).B, .inr ⟨k, HK.out.1, HK.out.2, HP.out, ?_⟩⟩
    rw [← HG2.out]
end Go.Proofs.YtnbhohaphmilmaaGreatDoor.SigLaw
namespace Go.Proofs.YtnbhohaphmilmaaGreatDoor
open Go.RowKit
set_option linter.unusedVariables false
set_option linter.unusedSimpArgs false
/-- a kernel whose process 1 lives, is awake, and has no signal -/
structure KQ (w : World) (K Pr : Nat) (c : Nat → Value) : Prop where
  kr : KR w K c
  c7 : c 7 = .pointer (some ⟨Pr, 0, none⟩)
  sl : c 83 = .bool false
  sg : ∀ j, j < 18 → c (65 + j) = kz (65 + j)
  pr : ProcLaw.TabAt w Pr ProcLaw.start
theorem KQ.keep {w w' : World} {K Pr : Nat} {c : Nat → Value} (h : KQ w K Pr c) (hb : Below w.heap.size w w') : KQ w' K Pr c := ⟨h.kr.keep hb, h.c7, h.sl, h.sg, h.pr.keep hb⟩
theorem ld_sig (v : Value) : Instr.loadAt 76 v = ldR 76 v := rfl
theorem st_sig (p v : Value) : Instr.storeAt 76 p v = stR 76 p v := rfl
theorem kz_sig : (List.range 18).map (fun j => kz (65 + j)) = List.replicate 18 (.int .i64 0) := by kernel_rfl
section
variable {w : World} {K Pr : Nat} {c : Nat → Value}
theorem sig_cells (h : ∀ j, j < 18 → c (65 + j) = kz (65 + j)) : (kerA c).extract 65 (65 + 18) = SigLaw.cellsA SigLaw.zeroG := by
  apply Array.ext
  · simp [kerA_size]; rfl
  · intro i h1 h2
    have hi : i < 18 := by simp [kerA_size] at h1; omega
    have e : kz (65 + i) = .int .i64 0 := by
      have : (List.map (fun j => kz (65 + j)) (List.range 18))[i]? = (List.replicate 18 (Value.int .i64 0))[i]? := by rw [kz_sig]
      rw [List.getElem?_map, List.getElem?_range hi, List.getElem?_replicate, if_pos hi] at this
      exact Option.some.inj this
    simp only [Array.getElem_extract, kerA, Array.getElem_ofFn]
    rw [h i hi, e]
    have : i = 0 ∨ i = 1 ∨ i = 2 ∨ i = 3 ∨ i = 4 ∨ i = 5 ∨ i = 6 ∨ i = 7 ∨ i = 8 ∨ i = 9 ∨ i = 10 ∨ i = 11 ∨ i = 12 ∨ i = 13 ∨ i = 14 ∨ i = 15 ∨ i = 16 ∨ i = 17 := by omega
    rcases this with rfl | rfl | rfl | rfl | rfl | rfl | rfl | rfl | rfl | rfl | rfl | rfl | rfl | rfl | rfl | rfl | rfl | rfl <;> rfl
theorem sig_right : SigLaw.Right SigLaw.zeroG 0 0 := by constructor <;> first | rfl | decide | (intro i hi; simp [SigLaw.zeroG])
set_option maxRecDepth 100000 in
set_option maxHeartbeats 400000 in
theorem living_is (h : KQ w K Pr c) : Calls Tryz.prog 20 #[.pointer (some ⟨K, 0, none⟩), .int .i64 1] w fun e w' => e = .returned (.int .i64 0) ∧ w = w' := by
  have q7 : w.cell? ⟨K, 7, none⟩ = some (.pointer (some ⟨Pr, 0, none⟩)) := by rw [h.kr.cell (by decide), h.c7]
  have HS := Lib.hid (ProcLaw.state_is (k := 1) h.pr (by decide) (by decide))
  rw [show (ProcLaw.start 1).st = 1 from rfl] at HS
  clear h
  go_enter Tryz.func20, Tryz.ntmps20
  go_wp2_with (go_at_call 53; refine HS.out.mono ?_; rintro e1 w1 ⟨rfl, rfl⟩)
  go_ret
  exact ⟨rfl, rfl⟩
attribute [local go_sem ↓] ld_sig st_sig
set_option maxRecDepth 100000 in
set_option maxHeartbeats 400000 in
theorem between_is (h : KQ w K Pr c) : Calls Tryz.prog 39 #[.pointer (some ⟨K, 0, none⟩), .int .i64 1] w fun e w' => e = .returned (.tuple #[.int .i64 0, .bool false]) ∧ Below w.heap.size w w' := by
  have l1 : (ldR 76 (.pointer (some ⟨K, 65, none⟩))).run Tryz.prog w = .ok (.agg (SigLaw.cellsA SigLaw.zeroG)) w := by
    rw [Row.ld h.kr (o := 65) (n := 18) (by rw [kerA_size]; decide) Tryz.underlying76 rfl (by kernel_rfl), sig_cells h.sg]
  have HT := Lib.hid (SigLaw.take_is SigLaw.zeroG 0 0 w ⟨⟨by decide, by decide⟩, by decide, by decide⟩ sig_right)
  have HST := Lib.hid (fun (w : World) (g : SigLaw.G) => st0_new w (T := 76) (c := #[.int .i64 0, .int .i64 0, .int .i64 0, .int .i64 0, .int .i64 0, .int .i64 0, .int .i64 0, .int .i64 0, .int .i64 0, .int .i64 0, .int .i64 0, .int .i64 0, .int .i64 0, .int .i64 0, .int .i64 0, .int .i64 0, .int .i64 0, .int .i64 0]) (cs := SigLaw.cellsA g) rfl (by kernel_rfl) (SigLaw.cellsA_one g))
  clear h
  generalize SigLaw.cellsA SigLaw.zeroG = ZG at *
  go_enter Tryz.func39, Tryz.ntmps39
  go_wp2_with (go_at_call 86; refine HT.out.mono ?_; rintro e1 w1 ⟨hb1, h1⟩; (rcases h1 with ⟨g1, n1, h1, rfl⟩ | ⟨k, _, _, hk, _⟩; rotate_left; exact absurd hk (by simp)); have st1 := HST.out w1 g1; have HB1 := Lib.hid (hb1.trans ((Go.Joins.below_alloc1 w1 (.cells (SigLaw.cellsA g1) 76)).mono hb1.size)); clear hb1; generalize SigLaw.cellsA g1 = C1 at *)
  go_ret2
  exact ⟨rfl, HB1.out⟩
end
end Go.Proofs.YtnbhohaphmilmaaGreatDoor
