/- The walks of package proc: New, number, living, State, Parent. The walks of package open: owner, free, find, New, Get, Seek. -/
import Derived.Test.YtnbhohaphmilmaaGreatDoorProcPlain
import Derived.Test.YtnbhohaphmilmaaGreatDoorProg
import Derived.Test.YtnbhohaphmilmaaGreatDoorCodeRow
import Derived.Test.YtnbhohaphmilmaaGreatDoorBytes
import Derived.WalkSmall
import Derived.BigQuiet
import Derived.BigRegion
import Derived.Laws.ResultCell
namespace Go.Proofs.YtnbhohaphmilmaaGreatDoor.ProcLaw
set_option linter.unusedSimpArgs false
open Go.RowKit
set_option linter.unusedVariables false

structure TabAt (w : World) (b : Nat) (t : T) : Prop where
  lt : b < w.heap.size
  fz : ∀ i, w.frozen? ⟨b, i, none⟩ = false
  st : ∀ k, k < 17 → w.cell? ⟨b, k * 4, none⟩ = some (.int .i64 (t k).st)
  par : ∀ k, k < 17 → w.cell? ⟨b, k * 4 + 1, none⟩ = some (.int .i64 (t k).par)
  gr : ∀ k, k < 17 → w.cell? ⟨b, k * 4 + 2, none⟩ = some (.int .i64 (t k).gr)
  code : ∀ k, k < 17 → w.cell? ⟨b, k * 4 + 3, none⟩ = some (.int .i64 (t k).code)
theorem TabAt.keep {w w' : World} {b : Nat} {t : T} (h : TabAt w b t) (hb : Below w.heap.size w w') : TabAt w' b t := by
  refine ⟨Nat.lt_of_lt_of_le h.lt hb.size, fun i => (hb.frozen (p := ⟨b, i, none⟩) h.lt).trans (h.fz i), ?_, ?_, ?_, ?_⟩ <;> intro k hk
  · exact (hb.cell (p := ⟨b, _, none⟩) h.lt).trans (h.st k hk)
  · exact (hb.cell (p := ⟨b, _, none⟩) h.lt).trans (h.par k hk)
  · exact (hb.cell (p := ⟨b, _, none⟩) h.lt).trans (h.gr k hk)
  · exact (hb.cell (p := ⟨b, _, none⟩) h.lt).trans (h.code k hk)
theorem TabAt.drew {w : World} {b : Nat} {t : T} (h : TabAt w b t) : TabAt w.drew b t := h.keep (Below.refl _ _).drew
theorem set_other {w : World} {b i j : Nat} {v u : Value} (hij : i ≠ j) (h : w.cell? ⟨b, j, none⟩ = some u) : (w.setCell ⟨b, i, none⟩ v).cell? ⟨b, j, none⟩ = some u := by
  rw [World.cell?_setCell_other]
  · exact h
  · intro e; exact hij (by simpa using congrArg Addr.off e)
theorem set_same {w : World} {b i : Nat} {v u : Value} (h : w.cell? ⟨b, i, none⟩ = some u) : (w.setCell ⟨b, i, none⟩ v).cell? ⟨b, i, none⟩ = some v := by
  simp [go_sem, h]
theorem TabAt.setSt {w : World} {b k : Nat} {t : T} (h : TabAt w b t) (hk : k < 17) (x : Int) : TabAt (w.setCell ⟨b, k * 4, none⟩ (.int .i64 x)) b (updE t k ⟨x, (t k).par, (t k).gr, (t k).code⟩) := by
  refine ⟨by simpa using h.lt, fun i => by rw [World.frozen?_setCell]; exact h.fz i, ?_, ?_, ?_, ?_⟩ <;> intro j hj <;> by_cases e : j = k
  · subst e; rw [updE_same]; exact set_same (h.st _ hk)
  · rw [updE_other _ _ e]; exact set_other (by omega) (h.st j hj)
  · subst e; rw [updE_same]; exact set_other (by omega) (h.par _ hk)
  · rw [updE_other _ _ e]; exact set_other (by omega) (h.par j hj)
  · subst e; rw [updE_same]; exact set_other (by omega) (h.gr _ hk)
  · rw [updE_other _ _ e]; exact set_other (by omega) (h.gr j hj)
  · subst e; rw [updE_same]; exact set_other (by omega) (h.code _ hk)
  · rw [updE_other _ _ e]; exact set_other (by omega) (h.code j hj)
theorem TabAt.setPar {w : World} {b k : Nat} {t : T} (h : TabAt w b t) (hk : k < 17) (x : Int) : TabAt (w.setCell ⟨b, k * 4 + 1, none⟩ (.int .i64 x)) b (updE t k ⟨(t k).st, x, (t k).gr, (t k).code⟩) := by
  refine ⟨by simpa using h.lt, fun i => by rw [World.frozen?_setCell]; exact h.fz i, ?_, ?_, ?_, ?_⟩ <;> intro j hj <;> by_cases e : j = k
  · subst e; rw [updE_same]; exact set_other (by omega) (h.st _ hk)
  · rw [updE_other _ _ e]; exact set_other (by omega) (h.st j hj)
  · subst e; rw [updE_same]; exact set_same (h.par _ hk)
  · rw [updE_other _ _ e]; exact set_other (by omega) (h.par j hj)
  · subst e; rw [updE_same]; exact set_other (by omega) (h.gr _ hk)
  · rw [updE_other _ _ e]; exact set_other (by omega) (h.gr j hj)
  · subst e; rw [updE_same]; exact set_other (by omega) (h.code _ hk)
  · rw [updE_other _ _ e]; exact set_other (by omega) (h.code j hj)
theorem TabAt.setGr {w : World} {b k : Nat} {t : T} (h : TabAt w b t) (hk : k < 17) (x : Int) : TabAt (w.setCell ⟨b, k * 4 + 2, none⟩ (.int .i64 x)) b (updE t k ⟨(t k).st, (t k).par, x, (t k).code⟩) := by
  refine ⟨by simpa using h.lt, fun i => by rw [World.frozen?_setCell]; exact h.fz i, ?_, ?_, ?_, ?_⟩ <;> intro j hj <;> by_cases e : j = k
  · subst e; rw [updE_same]; exact set_other (by omega) (h.st _ hk)
  · rw [updE_other _ _ e]; exact set_other (by omega) (h.st j hj)
  · subst e; rw [updE_same]; exact set_other (by omega) (h.par _ hk)
  · rw [updE_other _ _ e]; exact set_other (by omega) (h.par j hj)
  · subst e; rw [updE_same]; exact set_same (h.gr _ hk)
  · rw [updE_other _ _ e]; exact set_other (by omega) (h.gr j hj)
  · subst e; rw [updE_same]; exact set_other (by omega) (h.code _ hk)
  · rw [updE_other _ _ e]; exact set_other (by omega) (h.code j hj)
theorem TabAt.setCode {w : World} {b k : Nat} {t : T} (h : TabAt w b t) (hk : k < 17) (x : Int) : TabAt (w.setCell ⟨b, k * 4 + 3, none⟩ (.int .i64 x)) b (updE t k ⟨(t k).st, (t k).par, (t k).gr, x⟩) := by
  refine ⟨by simpa using h.lt, fun i => by rw [World.frozen?_setCell]; exact h.fz i, ?_, ?_, ?_, ?_⟩ <;> intro j hj <;> by_cases e : j = k
  · subst e; rw [updE_same]; exact set_other (by omega) (h.st _ hk)
  · rw [updE_other _ _ e]; exact set_other (by omega) (h.st j hj)
  · subst e; rw [updE_same]; exact set_other (by omega) (h.par _ hk)
  · rw [updE_other _ _ e]; exact set_other (by omega) (h.par j hj)
  · subst e; rw [updE_same]; exact set_other (by omega) (h.gr _ hk)
  · rw [updE_other _ _ e]; exact set_other (by omega) (h.gr j hj)
  · subst e; rw [updE_same]; exact set_same (h.code _ hk)
  · rw [updE_other _ _ e]; exact set_other (by omega) (h.code j hj)
theorem updE_twice (t : T) (k : Nat) (e e' : E) : updE (updE t k e) k e' = updE t k e' := by
  funext j; by_cases h : j = k <;> simp [updE, h]
theorem TabAt.set4 {w : World} {b k : Nat} {t : T} (h : TabAt w b t) (hk : k < 17) (x y z u : Int) : TabAt ((((w.setCell ⟨b, k * 4, none⟩ (.int .i64 x)).setCell ⟨b, k * 4 + 1, none⟩ (.int .i64 y)).setCell ⟨b, k * 4 + 2, none⟩ (.int .i64 z)).setCell ⟨b, k * 4 + 3, none⟩ (.int .i64 u)) b (updE t k ⟨x, y, z, u⟩) := by
  have h4 := (((h.setSt hk x).setPar hk y).setGr hk z).setCode hk u
  simpa [updE_twice, updE_same] using h4

theorem number_any (n : Int) (w : World) : Calls Tryz.prog 112 #[.int .i64 n] w fun e w' => e = .returned (.bool (decide (1 ≤ n) && decide (n ≤ 16))) ∧ w = w' := by
  by_cases h1 : 1 ≤ n
  · by_cases h2 : n ≤ 16
    · go_enter Tryz.func112, Tryz.ntmps112
      go_wp2
      go_ret
      exact ⟨by simp [h1, h2], rfl⟩
    · go_enter Tryz.func112, Tryz.ntmps112
      go_wp2
      go_ret
      exact ⟨by simp [h1, h2], rfl⟩
  · go_enter Tryz.func112, Tryz.ntmps112
    go_wp2
    go_ret
    exact ⟨by rw [show decide (1 ≤ n) = false from by simp; omega]; rfl, rfl⟩
def livR (t : T) (p : Int) : Int := if 1 ≤ p ∧ p ≤ 16 then (if (t p.toNat).st = 1 then 0 else 4) else 1
theorem living_is {w : World} {b : Nat} {t : T} (p : Int) (h : TabAt w b t) : Calls Tryz.prog 224 #[.pointer (some ⟨b, 0, none⟩), .int .i64 p] w fun e w' => e = .returned (.int .i64 (livR t p)) ∧ w = w' := by
  by_cases hp : 1 ≤ p ∧ p ≤ 16
  · have hd : (decide (1 ≤ p) && decide (p ≤ 16)) = true := by simp; omega
    obtain ⟨k, rfl⟩ : ∃ k : Nat, p = k := ⟨p.toNat, by omega⟩
    have hk : (k : Int) < 17 := by omega
    have hc := h.st k (by omega)
    have hl : livR t k = if (t k).st = 1 then 0 else 4 := by unfold livR; rw [if_pos hp]; simp
    have HL := Lib.hid hl
    have HD := Lib.hid hd
    clear hl hd hp
    generalize (t k).st = x at *
    by_cases hx : x = 1
    · subst hx
      go_enter Tryz.func224, Tryz.ntmps224
      go_wp2_with fail
      refine (number_any _ _).mono ?_
      rintro e w1 ⟨rfl, rfl⟩
      rw [HD.out]
      go_wp2
      go_ret
      exact ⟨ret_int (by rw [HL.out]; simp), rfl⟩
    · have hx' : (x != 1) = true := by simp [hx]
      have HX := Lib.hid hx
      clear hx
      go_enter Tryz.func224, Tryz.ntmps224
      go_wp2_with fail
      refine (number_any _ _).mono ?_
      rintro e w1 ⟨rfl, rfl⟩
      rw [HD.out]
      go_wp2
      go_ret
      exact ⟨ret_int (by rw [HL.out, if_neg HX.out]), rfl⟩
  · have hd : (decide (1 ≤ p) && decide (p ≤ 16)) = false := by simp; omega
    have HL := Lib.hid (show livR t p = 1 from if_neg hp)
    clear hp
    go_enter Tryz.func224, Tryz.ntmps224
    go_wp2_with fail
    refine (number_any _ _).mono ?_
    rintro e w1 ⟨rfl, rfl⟩
    rw [hd]
    go_wp2
    go_ret
    exact ⟨ret_int (by rw [HL.out]), rfl⟩
theorem livR_zero {t : T} {p : Int} (h : livR t p = 0) : ∃ k : Nat, p = k ∧ alive t k := by
  unfold livR at h
  by_cases hp : 1 ≤ p ∧ p ≤ 16
  · rw [if_pos hp] at h
    by_cases hs : (t p.toNat).st = 1
    · exact ⟨p.toNat, by omega, by omega, by omega, hs⟩
    · rw [if_neg hs] at h; cases h
  · rw [if_neg hp] at h; cases h
theorem livR_alive {t : T} {k : Nat} (h : alive t k) : livR t k = 0 := by
  obtain ⟨h1, h2, h3⟩ := h
  unfold livR
  rw [if_pos (by omega), if_pos (by simpa using h3)]
theorem state_is {w : World} {b k : Nat} {t : T} (h : TabAt w b t) (h1 : 1 ≤ k) (h2 : k ≤ 16) : Calls Tryz.prog 53 #[.pointer (some ⟨b, 0, none⟩), .int .i64 k] w fun e w' => e = .returned (.tuple #[.int .i64 (t k).st, .int .i64 0]) ∧ w = w' := by
  have hd : (decide (1 ≤ (k : Int)) && decide ((k : Int) ≤ 16)) = true := by simp; omega
  have hk : (k : Int) < 17 := by omega
  have hc := h.st k (by omega)
  have HD := Lib.hid hd
  clear hd
  go_enter Tryz.func53, Tryz.ntmps53
  go_wp2_with fail
  refine (number_any _ _).mono ?_
  rintro e w1 ⟨rfl, rfl⟩
  rw [HD.out]
  go_wp2
  go_ret2
  exact ⟨rfl, rfl⟩
theorem parent_is {w : World} {b k : Nat} {t : T} (h : TabAt w b t) (h1 : 1 ≤ k) (h2 : k ≤ 16) (hn : (t k).st ≠ 0) : Calls Tryz.prog 182 #[.pointer (some ⟨b, 0, none⟩), .int .i64 k] w fun e w' => e = .returned (.tuple #[.int .i64 (t k).par, .int .i64 0]) ∧ w = w' := by
  have hd : (decide (1 ≤ (k : Int)) && decide ((k : Int) ≤ 16)) = true := by simp; omega
  have hk : (k : Int) < 17 := by omega
  have hc := h.st k (by omega)
  have hp := h.par k (by omega)
  have hn' : ((t k).st == 0) = false := by simp [hn]
  have HD := Lib.hid hd
  clear hd hn
  go_enter Tryz.func182, Tryz.ntmps182
  go_wp2_with fail
  refine (number_any _ _).mono ?_
  rintro e w1 ⟨rfl, rfl⟩
  rw [HD.out]
  go_wp2
  go_ret2
  exact ⟨rfl, rfl⟩
def ints68 : List Int := [0, 0, 0, 0, 1, 0, 1, 0] ++ List.replicate 60 0
theorem ints_at : ∀ k : Fin 17, ints68[k.val * 4]? = some (start k.val).st ∧ ints68[k.val * 4 + 1]? = some (start k.val).par ∧ ints68[k.val * 4 + 2]? = some (start k.val).gr ∧ ints68[k.val * 4 + 3]? = some (start k.val).code := by decide +kernel
theorem tab_new (w : World) (Y : TypeId) : TabAt (w.alloc (.cells (ints68.map (Value.int .i64)).toArray Y)) w.heap.size start := by
  have h := has_new w (ints68.map (Value.int .i64)) Y
  refine ⟨h.1, fun i => frozen_of_row _ _ _ _ _ (heap_alloc_new _ _), ?_, ?_, ?_, ?_⟩ <;> intro k hk <;> apply h.2 <;> rw [List.getElem?_map]
  · rw [(ints_at ⟨k, hk⟩).1]; rfl
  · rw [(ints_at ⟨k, hk⟩).2.1]; rfl
  · rw [(ints_at ⟨k, hk⟩).2.2.1]; rfl
  · rw [(ints_at ⟨k, hk⟩).2.2.2]; rfl
set_option maxRecDepth 100000 in
theorem new_is (w : World) : Calls Tryz.prog 29 #[] w fun e w' => e = .returned (.pointer (some ⟨w.heap.size, 0, none⟩)) ∧ Below w.heap.size w w' ∧ TabAt w' w.heap.size start := by
  go_enter Tryz.func29, Tryz.ntmps29
  go_wp2
  go_ret
  refine ⟨rfl, (Below.refl _ _).alloc (Nat.le_refl _) _, ?_⟩
  have e : (((Tryz.zeroCells206.setIfInBounds 4 (.int .i64 1)).setIfInBounds 5 (.int .i64 0)).setIfInBounds 6 (.int .i64 1)).setIfInBounds 7 (.int .i64 0) = (ints68.map (Value.int .i64)).toArray := by kernel_rfl
  have := tab_new w 206
  rw [← e] at this
  exact this
end Go.Proofs.YtnbhohaphmilmaaGreatDoor.ProcLaw
namespace Go.Proofs.YtnbhohaphmilmaaGreatDoor.OpenLaw
set_option linter.unusedSimpArgs false
open Go.RowKit
set_option linter.unusedVariables false

structure F where
  kind : Int
  id : Int
  may : Int
  more : Bool
  pos : Int
  n : Int
abbrev f0 : F := ⟨0, 0, 0, false, 0, 0⟩
def thing (f : F) : Value := .agg #[.int .i64 f.kind, .int .i64 f.id, .int .i64 f.may, .bool f.more, .int .i64 f.pos]
def updF (t : Nat → F) (k : Nat) (f : F) : Nat → F := fun j => if j = k then f else t j
theorem updF_same (t : Nat → F) (k : Nat) (e : F) : updF t k e k = e := by simp [updF]
theorem updF_other (t : Nat → F) {k j : Nat} (e : F) (h : j ≠ k) : updF t k e j = t j := by simp [updF, h]
theorem updF_twice (t : Nat → F) (k : Nat) (e e' : F) : updF (updF t k e) k e' = updF t k e' := by
  funext j; by_cases h : j = k <;> simp [updF, h]
def updN (t : Nat → Nat) (k : Nat) (x : Nat) : Nat → Nat := fun j => if j = k then x else t j
theorem updN_same (t : Nat → Nat) (k x : Nat) : updN t k x k = x := by simp [updN]
theorem updN_other (t : Nat → Nat) {k j : Nat} (x : Nat) (h : j ≠ k) : updN t k x j = t j := by simp [updN, h]

/-- the table in block b: 32 files of six cells; 17 rows of eight descriptors -/
structure OTab (w : World) (b : Nat) (fs : Nat → F) (fd : Nat → Nat) : Prop where
  lt : b < w.heap.size
  fz : ∀ i, w.frozen? ⟨b, i, none⟩ = false
  le : ∀ i, fd i ≤ 32
  c0 : ∀ k, k < 32 → w.cell? ⟨b, k * 6, none⟩ = some (.int .i64 (fs k).kind)
  c1 : ∀ k, k < 32 → w.cell? ⟨b, k * 6 + 1, none⟩ = some (.int .i64 (fs k).id)
  c2 : ∀ k, k < 32 → w.cell? ⟨b, k * 6 + 2, none⟩ = some (.int .i64 (fs k).may)
  c3 : ∀ k, k < 32 → w.cell? ⟨b, k * 6 + 3, none⟩ = some (.bool (fs k).more)
  c4 : ∀ k, k < 32 → w.cell? ⟨b, k * 6 + 4, none⟩ = some (.int .i64 (fs k).pos)
  c5 : ∀ k, k < 32 → w.cell? ⟨b, k * 6 + 5, none⟩ = some (.int .i64 (fs k).n)
  d : ∀ p j, p < 17 → j < 8 → w.cell? ⟨b, 192 + p * 8 + j, none⟩ = some (.int .i64 (fd (p * 8 + j) : Nat))
theorem OTab.keep {w w' : World} {b : Nat} {fs : Nat → F} {fd : Nat → Nat} (h : OTab w b fs fd) (hb : Below w.heap.size w w') : OTab w' b fs fd := by
  refine ⟨Nat.lt_of_lt_of_le h.lt hb.size, fun i => (hb.frozen (p := ⟨b, i, none⟩) h.lt).trans (h.fz i), h.le, ?_, ?_, ?_, ?_, ?_, ?_, ?_⟩
  · exact fun k hk => (hb.cell (p := ⟨b, _, none⟩) h.lt).trans (h.c0 k hk)
  · exact fun k hk => (hb.cell (p := ⟨b, _, none⟩) h.lt).trans (h.c1 k hk)
  · exact fun k hk => (hb.cell (p := ⟨b, _, none⟩) h.lt).trans (h.c2 k hk)
  · exact fun k hk => (hb.cell (p := ⟨b, _, none⟩) h.lt).trans (h.c3 k hk)
  · exact fun k hk => (hb.cell (p := ⟨b, _, none⟩) h.lt).trans (h.c4 k hk)
  · exact fun k hk => (hb.cell (p := ⟨b, _, none⟩) h.lt).trans (h.c5 k hk)
  · exact fun p j hp hj => (hb.cell (p := ⟨b, _, none⟩) h.lt).trans (h.d p j hp hj)
section
variable {w : World} {b : Nat} {fs : Nat → F} {fd : Nat → Nat}
theorem OTab.drew (h : OTab w b fs fd) : OTab w.drew b fs fd := h.keep (Below.refl _ _).drew
theorem OTab.drewN (h : OTab w b fs fd) (n : Nat) : OTab (w.drewN n) b fs fd := h.keep (below_drewN (Below.refl _ _) n)
theorem OTab.alloc (h : OTab w b fs fd) (o : Obj) : OTab (w.alloc o) b fs fd := h.keep ((Below.refl _ _).alloc (Nat.le_refl _) o)
theorem set_other {i j : Nat} {v u : Value} (hij : i ≠ j) (h : w.cell? ⟨b, j, none⟩ = some u) : (w.setCell ⟨b, i, none⟩ v).cell? ⟨b, j, none⟩ = some u := by
  rw [World.cell?_setCell_other]
  · exact h
  · intro e; exact hij (by simpa using congrArg Addr.off e)
theorem set_same {i : Nat} {v u : Value} (h : w.cell? ⟨b, i, none⟩ = some u) : (w.setCell ⟨b, i, none⟩ v).cell? ⟨b, i, none⟩ = some v := by
  simp [go_sem, h]
/-- a store into field f of file k -/
theorem OTab.setF (h : OTab w b fs fd) {k f : Nat} (hk : k < 32) (hf : f < 6) {v : Value} {e : F}
    (e0 : some (if f = 0 then v else .int .i64 (fs k).kind) = some (.int .i64 e.kind)) (e1 : some (if f = 1 then v else .int .i64 (fs k).id) = some (.int .i64 e.id)) (e2 : some (if f = 2 then v else .int .i64 (fs k).may) = some (.int .i64 e.may))
    (e3 : some (if f = 3 then v else .bool (fs k).more) = some (.bool e.more)) (e4 : some (if f = 4 then v else .int .i64 (fs k).pos) = some (.int .i64 e.pos)) (e5 : some (if f = 5 then v else .int .i64 (fs k).n) = some (.int .i64 e.n)) :
    OTab (w.setCell ⟨b, k * 6 + f, none⟩ v) b (updF fs k e) fd := by
  refine ⟨by simpa using h.lt, fun i => by rw [World.frozen?_setCell]; exact h.fz i, h.le, ?_, ?_, ?_, ?_, ?_, ?_, ?_⟩
  · intro j hj
    by_cases ej : j = k
    · subst ej; rw [updF_same, ← e0]
      by_cases ef : f = 0
      · subst ef; rw [if_pos rfl]; exact set_same (h.c0 _ hk)
      · rw [if_neg ef]; exact set_other (by omega) (h.c0 _ hk)
    · rw [updF_other _ _ ej]; exact set_other (by omega) (h.c0 j hj)
  · intro j hj
    by_cases ej : j = k
    · subst ej; rw [updF_same, ← e1]
      by_cases ef : f = 1
      · subst ef; rw [if_pos rfl]; exact set_same (h.c1 _ hk)
      · rw [if_neg ef]; exact set_other (by omega) (h.c1 _ hk)
    · rw [updF_other _ _ ej]; exact set_other (by omega) (h.c1 j hj)
  · intro j hj
    by_cases ej : j = k
    · subst ej; rw [updF_same, ← e2]
      by_cases ef : f = 2
      · subst ef; rw [if_pos rfl]; exact set_same (h.c2 _ hk)
      · rw [if_neg ef]; exact set_other (by omega) (h.c2 _ hk)
    · rw [updF_other _ _ ej]; exact set_other (by omega) (h.c2 j hj)
  · intro j hj
    by_cases ej : j = k
    · subst ej; rw [updF_same, ← e3]
      by_cases ef : f = 3
      · subst ef; rw [if_pos rfl]; exact set_same (h.c3 _ hk)
      · rw [if_neg ef]; exact set_other (by omega) (h.c3 _ hk)
    · rw [updF_other _ _ ej]; exact set_other (by omega) (h.c3 j hj)
  · intro j hj
    by_cases ej : j = k
    · subst ej; rw [updF_same, ← e4]
      by_cases ef : f = 4
      · subst ef; rw [if_pos rfl]; exact set_same (h.c4 _ hk)
      · rw [if_neg ef]; exact set_other (by omega) (h.c4 _ hk)
    · rw [updF_other _ _ ej]; exact set_other (by omega) (h.c4 j hj)
  · intro j hj
    by_cases ej : j = k
    · subst ej; rw [updF_same, ← e5]
      by_cases ef : f = 5
      · subst ef; rw [if_pos rfl]; exact set_same (h.c5 _ hk)
      · rw [if_neg ef]; exact set_other (by omega) (h.c5 _ hk)
    · rw [updF_other _ _ ej]; exact set_other (by omega) (h.c5 j hj)
  · intro p j hp hj
    exact set_other (by omega) (h.d p j hp hj)
theorem OTab.setN (h : OTab w b fs fd) {k : Nat} (hk : k < 32) (x : Int) : OTab (w.setCell ⟨b, k * 6 + 5, none⟩ (.int .i64 x)) b (updF fs k { fs k with n := x }) fd := h.setF hk (by decide) rfl rfl rfl rfl rfl rfl
theorem OTab.setPos (h : OTab w b fs fd) {k : Nat} (hk : k < 32) (x : Int) : OTab (w.setCell ⟨b, k * 6 + 4, none⟩ (.int .i64 x)) b (updF fs k { fs k with pos := x }) fd := h.setF hk (by decide) rfl rfl rfl rfl rfl rfl
theorem OTab.setD (h : OTab w b fs fd) {p j : Nat} (hp : p < 17) (hj : j < 8) {x : Nat} (hx : x ≤ 32) : OTab (w.setCell ⟨b, 192 + p * 8 + j, none⟩ (.int .i64 x)) b fs (updN fd (p * 8 + j) x) := by
  refine ⟨by simpa using h.lt, fun i => by rw [World.frozen?_setCell]; exact h.fz i, ?_, ?_, ?_, ?_, ?_, ?_, ?_, ?_⟩
  · intro i
    unfold updN
    split
    · exact hx
    · exact h.le i
  · exact fun k hk => set_other (by omega) (h.c0 k hk)
  · exact fun k hk => set_other (by omega) (h.c1 k hk)
  · exact fun k hk => set_other (by omega) (h.c2 k hk)
  · exact fun k hk => set_other (by omega) (h.c3 k hk)
  · exact fun k hk => set_other (by omega) (h.c4 k hk)
  · exact fun k hk => set_other (by omega) (h.c5 k hk)
  · intro p' j' hp' hj'
    by_cases e : p' * 8 + j' = p * 8 + j
    · have h1 : p' = p := by omega
      have h2 : j' = j := by omega
      subst h1; subst h2
      rw [updN_same]; exact set_same (h.d _ _ hp hj)
    · rw [updN_other _ _ e]; exact set_other (by omega) (h.d p' j' hp' hj')
end

theorem owner_any (n : Int) (w : World) : Calls Tryz.prog 225 #[.int .i64 n] w fun e w' => e = .returned (.bool (decide (1 ≤ n) && decide (n ≤ 16))) ∧ w = w' := by
  by_cases h1 : 1 ≤ n
  · by_cases h2 : n ≤ 16
    · go_enter Tryz.func225, Tryz.ntmps225
      go_wp2
      go_ret
      exact ⟨by simp [h1, h2], rfl⟩
    · go_enter Tryz.func225, Tryz.ntmps225
      go_wp2
      go_ret
      exact ⟨by simp [h1, h2], rfl⟩
  · go_enter Tryz.func225, Tryz.ntmps225
    go_wp2
    go_ret
    exact ⟨by rw [show decide (1 ≤ n) = false from by simp; omega]; rfl, rfl⟩
theorem owner_is {p : Nat} (h1 : 1 ≤ p) (h2 : p ≤ 16) (w : World) : Calls Tryz.prog 225 #[.int .i64 p] w fun e w' => e = .returned (.bool true) ∧ w = w' := by
  have := owner_any p w
  rw [show (decide ((1 : Int) ≤ p) && decide ((p : Int) ≤ 16)) = true from by simp; omega] at this
  exact this
def FindPost (b : Nat) (x : Nat) (w : World) (e : Ending) (w' : World) : Prop :=
  e = .returned (.tuple #[if x = 0 then .pointer none else .pointer (some ⟨b, (x - 1) * 6, none⟩), .int .i64 (if x = 0 then 4 else 0)]) ∧ Below w.heap.size w w'
set_option maxHeartbeats 400000 in
theorem find_is {w : World} {b p j : Nat} {fs : Nat → F} {fd : Nat → Nat} (h : OTab w b fs fd) (h1 : 1 ≤ p) (h2 : p ≤ 16) (hj : j < 8) : Calls Tryz.prog 232 #[.pointer (some ⟨b, 0, none⟩), .int .i64 p, .int .i64 j] w (FindPost b (fd (p * 8 + j)) w) := by
  have hc := h.d p j (by omega) hj
  have hle := h.le (p * 8 + j)
  have HO := Lib.hid (owner_is h1 h2 w)
  have hpi : (p : Int) < 17 := by omega
  have hji : (j : Int) < 8 := by omega
  have g2 : decide ((8 : Int) ≤ j) = false := by simp; omega
  have g5 : ¬ (8 ≤ j) := by omega
  unfold FindPost
  generalize fd (p * 8 + j) = x at *
  clear h h1 h2
  by_cases hx : x = 0
  · subst hx
    go_enter Tryz.func232, Tryz.ntmps232
    go_wp2_with fail
    refine HO.out.mono ?_
    rintro e w1 ⟨rfl, rfl⟩
    go_wp2
    go_ret2
    exact ⟨rfl, Below.refl _ _⟩
  · obtain ⟨k, rfl⟩ : ∃ k, x = k + 1 := ⟨x - 1, by omega⟩
    have hki : (k : Int) < 32 := by omega
    rw [show ((k + 1 : Nat) : Int) = (k : Int) + 1 from rfl] at hc
    have hne : ((k : Int) + 1 == 0) = false := by simp; omega
    clear hx hle
    go_enter Tryz.func232, Tryz.ntmps232
    go_wp2_with fail
    refine HO.out.mono ?_
    rintro e w1 ⟨rfl, rfl⟩
    go_wp2_with fail
    go_region
    go_wp2
    go_ret2
    exact ⟨rfl, (Below.refl _ _).drew⟩
end Go.Proofs.YtnbhohaphmilmaaGreatDoor.OpenLaw
