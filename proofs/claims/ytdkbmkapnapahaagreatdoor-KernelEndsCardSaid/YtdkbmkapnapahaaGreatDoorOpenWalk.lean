/- Walks of ringkeep5's own small functions: Within, good. Arguments that are slices of arrays of ints, opened to cells. No program here. The walks of package open: owner, free, find, New, Get, Seek. -/
import Derived.Test.YtdkbmkapnapahaaGreatDoorProg
import Derived.Test.YtdkbmkapnapahaaGreatDoorBase
import Derived.WalkSmall
import Derived.BigQuiet
import Derived.BigRegion
import Derived.Laws.ResultCell
namespace Go.Proofs.YtdkbmkapnapahaaGreatDoor
set_option linter.unusedSimpArgs false
open Go.RowKit
set_option linter.unusedVariables false

theorem tmod_neg {k n : Int} (hn : 1 ≤ n) (h : k < 0) : k.tmod n = -((-k) % n) := by
  obtain ⟨m, rfl⟩ : ∃ m : Int, k = -m := ⟨-k, by omega⟩
  rw [Int.neg_tmod, Int.neg_neg, Int.tmod_eq_emod_of_nonneg (by omega)]

theorem rest_any (k n : Int) (w : World) (hn : 1 ≤ n) (hn' : n ≤ 4294967296) :
    Calls Tryz.prog 21 #[.int .i64 k, .int .i64 n] w fun e w' => e = .returned (.int .i64 (k % n)) ∧ w = w' := by
  by_cases h0 : 0 ≤ k
  · have h1 : 0 ≤ k % n := Int.emod_nonneg _ (by omega)
    have h2 : k % n < n := Int.emod_lt_of_pos _ (by omega)
    go_enter Tryz.func21, Tryz.ntmps21
    go_wp2
    go_ret
    exact ⟨rfl, rfl⟩
  · have h1 : 0 ≤ (-k) % n := Int.emod_nonneg _ (by omega)
    have h2 : (-k) % n < n := Int.emod_lt_of_pos _ (by omega)
    have h3 := tmod_neg hn (show k < 0 by omega)
    have h4 : k.tmod n ≤ 0 := by omega
    have h5 : -n < k.tmod n := by omega
    have hd := Int.mul_tdiv_add_tmod k n
    have H3 := Lib.hid h3
    clear h3 hd
    by_cases hz : k.tmod n < 0
    · have hr : k.tmod n + n = k % n := by
        have e1 := H3.out
        have e2 : (-k) % n ≠ 0 := by omega
        have : k % n = n - (-k) % n := by
          have hq : -(-k) % n = if n ∣ -k then 0 else (n.natAbs : Int) - (-k) % n := Int.neg_emod
          rw [Int.neg_neg, if_neg (by intro hdv; exact e2 (Int.emod_eq_zero_of_dvd hdv))] at hq
          omega
        omega
      have HR := Lib.hid hr
      clear hr h1 h2 h0
      go_enter Tryz.func21, Tryz.ntmps21
      go_wp2
      go_ret
      exact ⟨ret_int HR.out, rfl⟩
    · have hr : k.tmod n = k % n := by
        have e1 := H3.out
        have e2 : (-k) % n = 0 := by omega
        have e3 : k % n = 0 := by
          have hd : n ∣ -k := Int.dvd_of_emod_eq_zero e2
          exact Int.emod_eq_zero_of_dvd ((Int.dvd_neg).1 hd)
        omega
      have HR := Lib.hid hr
      clear hr h1 h2 h0
      go_enter Tryz.func21, Tryz.ntmps21
      go_wp2
      go_ret
      exact ⟨ret_int HR.out, rfl⟩

theorem within_any (k n : Int) (w : World) (hn : 1 ≤ n) (hn' : n ≤ 4294967296) :
    Calls Tryz.prog 8 #[.int .i64 k, .int .i64 n] w fun e w' => e = .returned (.int .i64 (k % n)) ∧ w = w' := by
  go_enter Tryz.func8, Tryz.ntmps8
  go_wp2_with (go_at_call 21; refine (rest_any _ _ _ hn hn').mono ?_; rintro e w' ⟨rfl, rfl⟩)
  go_ret
  exact ⟨rfl, rfl⟩

end Go.Proofs.YtdkbmkapnapahaaGreatDoor
namespace Go.Proofs.YtdkbmkapnapahaaGreatDoor
set_option linter.unusedSimpArgs false
set_option linter.unusedVariables false
open Go.ChangeShapes Go.WideShapes Go.Deep Go.RowKit

/-- A SLICE OF ARRAYS OF k INTS: element i's entry j is F i j. -/
def TabIn (w : World) (k : Nat) (v : Value) (len : Nat) (F : Nat → Nat → Int) : Prop :=
  ∃ (a : Option Addr) (cap : Nat), v = .slice a len cap ∧ len ≤ cap ∧ cap ≤ maxLen ∧ (len = 0 ∨ ∃ b off, a = some ⟨b, off, none⟩ ∧ b < w.heap.size ∧
    ∀ i, i < len → ∀ j, j < k → w.cell? ⟨b, off + i * k + j, none⟩ = some (.int .i64 (F i j)) ∧ -9223372036854775808 ≤ F i j ∧ F i j ≤ 9223372036854775807)

section
variable {H : Type} {enc : TypeId × Value → H} {P : Program} {w : World} {base : Nat} {held : Bool}
theorem open_tab {r : Reach} {b0 : Nat} {t e q : TypeId} {k : Nat} {v : Value} {d : DataW H} {p : List MemPlace} (ht : P.underlying t = some (.slice e)) (he : P.underlying e = some (.array k q)) (hq : P.underlying q = some (.int .i64))
    (hc1 : P.cellsOf q = 1) (hC : P.cellsOf e = k) (hpos : 0 < k)
    (hv : Value.okWide P w r b0 t v) (h : DataW.Trod enc P w base (fun _ => true) held t v d p) : ∃ len F, TabIn w k v len F := by
  obtain ⟨a0, len0, cap0, rfl⟩ := okWide_slice ht hv
  obtain ⟨fuel, hf⟩ := h
  rcases open_slice ht hf with ⟨hcs, _⟩ | ⟨a, len, cap, m, n, D, Pl, hcs, hb, hl, hm, hmm, hx, hi⟩
  · simp [Value.cells] at hcs
    obtain ⟨rfl, rfl, rfl⟩ := hcs
    exact ⟨0, fun _ _ => 0, none, 0, rfl, Nat.le_refl _, Nat.zero_le _, .inl rfl⟩
  · simp [Value.cells] at hcs
    obtain ⟨rfl, rfl, rfl⟩ := hcs
    have hmc : m = cap0 := by simpa using hmm
    by_cases h0 : len0 = 0
    · exact ⟨len0, fun _ _ => 0, some a, cap0, rfl, hl, hm, .inl h0⟩
    · obtain ⟨F, hF⟩ := choose_lt (α := Nat → Int) (n := len0) (p := fun i g => ∀ j, j < k → w.cell? (a.add (i * k + j)) = some (.int .i64 (g j)) ∧ -9223372036854775808 ≤ g j ∧ g j ≤ 9223372036854775807) (fun i hil => by
        obtain ⟨cs', hc, ht'⟩ := hi i (by omega)
        rw [hC] at hc
        obtain ⟨ys, n', hn', hy, hlen, hyl, hfld⟩ := DataW.trod_array he ht'
        obtain ⟨_, hcl, hat⟩ := World.cells?_some hc
        exact choose_lt (α := Int) (n := k) (p := fun j x => w.cell? (a.add (i * k + j)) = some (.int .i64 x) ∧ -9223372036854775808 ≤ x ∧ x ≤ 9223372036854775807) (fun j hj => by
          have hcell := hat j hj
          have hv : cs'[j]? = some (cs'[j]'(by omega)) := List.getElem?_eq_getElem (by omega)
          have h1 := hfld j hj
          rw [hc1, Nat.mul_one] at h1
          have hone' : (cs'.drop j).take 1 = [cs'[j]'(by omega)] := by
            rw [List.drop_eq_getElem_cons (by omega)]
            rfl
          rw [hone'] at h1
          have hys : ys[j]? = some (ys[j]'(by omega)) := List.getElem?_eq_getElem (by omega)
          rw [hys] at h1
          obtain ⟨z, hz, _, hw⟩ := DataW.trod_int hq h1
          have hz' : cs'[j]'(by omega) = .int .i64 z := by simpa using hz
          refine ⟨z, ?_, bounds_i64 hw⟩
          rw [← Go.Deep.add_add, hcell, hv, hz']))
      obtain ⟨b, off, spot⟩ := a
      have hc0 := (hF 0 (by omega) 0 hpos).1
      have hspot : spot = none := by simpa [Addr.add] using World.cell?_spot hc0
      subst hspot
      refine ⟨len0, F, _, cap0, rfl, hl, hm, .inr ⟨b, off, rfl, ?_, fun i hil j hj => ?_⟩⟩
      · have := World.block_lt_of_cell? w _ hc0
        rw [Addr.add_lit] at this
        exact this
      · have := hF i hil j hj
        rw [Addr.add_lit] at this
        rw [Nat.add_assoc]
        exact this
end
end Go.Proofs.YtdkbmkapnapahaaGreatDoor
namespace Go.Proofs.YtdkbmkapnapahaaGreatDoor.OpenLaw
set_option linter.unusedSimpArgs false
open Go.RowKit
set_option linter.unusedVariables false

structure F where
  kind : Int
  id : Int
  may : Int
  more : Bool
  pos : Int
  n : Int
abbrev f0 : F := ⟨0, 0, 0, false, 0, 0⟩
def thing (f : F) : Value := .agg #[.int .i64 f.kind, .int .i64 f.id, .int .i64 f.may, .bool f.more, .int .i64 f.pos]
def updF (t : Nat → F) (k : Nat) (f : F) : Nat → F := fun j => if j = k then f else t j
theorem updF_same (t : Nat → F) (k : Nat) (e : F) : updF t k e k = e := by simp [updF]
theorem updF_other (t : Nat → F) {k j : Nat} (e : F) (h : j ≠ k) : updF t k e j = t j := by simp [updF, h]
theorem updF_twice (t : Nat → F) (k : Nat) (e e' : F) : updF (updF t k e) k e' = updF t k e' := by
  funext j; by_cases h : j = k <;> simp [updF, h]
def updN (t : Nat → Nat) (k : Nat) (x : Nat) : Nat → Nat := fun j => if j = k then x else t j
theorem updN_same (t : Nat → Nat) (k x : Nat) : updN t k x k = x := by simp [updN]
theorem updN_other (t : Nat → Nat) {k j : Nat} (x : Nat) (h : j ≠ k) : updN t k x j = t j := by simp [updN, h]

/-- the table in block b: 32 files of six cells; 17 rows of eight descriptors -/
structure OTab (w : World) (b : Nat) (fs : Nat → F) (fd : Nat → Nat) : Prop where
  lt : b < w.heap.size
  fz : ∀ i, w.frozen? ⟨b, i, none⟩ = false
  le : ∀ i, fd i ≤ 32
  c0 : ∀ k, k < 32 → w.cell? ⟨b, k * 6, none⟩ = some (.int .i64 (fs k).kind)
  c1 : ∀ k, k < 32 → w.cell? ⟨b, k * 6 + 1, none⟩ = some (.int .i64 (fs k).id)
  c2 : ∀ k, k < 32 → w.cell? ⟨b, k * 6 + 2, none⟩ = some (.int .i64 (fs k).may)
  c3 : ∀ k, k < 32 → w.cell? ⟨b, k * 6 + 3, none⟩ = some (.bool (fs k).more)
  c4 : ∀ k, k < 32 → w.cell? ⟨b, k * 6 + 4, none⟩ = some (.int .i64 (fs k).pos)
  c5 : ∀ k, k < 32 → w.cell? ⟨b, k * 6 + 5, none⟩ = some (.int .i64 (fs k).n)
  d : ∀ p j, p < 17 → j < 8 → w.cell? ⟨b, 192 + p * 8 + j, none⟩ = some (.int .i64 (fd (p * 8 + j) : Nat))
theorem OTab.keep {w w' : World} {b : Nat} {fs : Nat → F} {fd : Nat → Nat} (h : OTab w b fs fd) (hb : Below w.heap.size w w') : OTab w' b fs fd := by
  refine ⟨Nat.lt_of_lt_of_le h.lt hb.size, fun i => (hb.frozen (p := ⟨b, i, none⟩) h.lt).trans (h.fz i), h.le, ?_, ?_, ?_, ?_, ?_, ?_, ?_⟩
  · exact fun k hk => (hb.cell (p := ⟨b, _, none⟩) h.lt).trans (h.c0 k hk)
  · exact fun k hk => (hb.cell (p := ⟨b, _, none⟩) h.lt).trans (h.c1 k hk)
  · exact fun k hk => (hb.cell (p := ⟨b, _, none⟩) h.lt).trans (h.c2 k hk)
  · exact fun k hk => (hb.cell (p := ⟨b, _, none⟩) h.lt).trans (h.c3 k hk)
  · exact fun k hk => (hb.cell (p := ⟨b, _, none⟩) h.lt).trans (h.c4 k hk)
  · exact fun k hk => (hb.cell (p := ⟨b, _, none⟩) h.lt).trans (h.c5 k hk)
  · exact fun p j hp hj => (hb.cell (p := ⟨b, _, none⟩) h.lt).trans (h.d p j hp hj)
section
variable {w : World} {b : Nat} {fs : Nat → F} {fd : Nat → Nat}
theorem OTab.drew (h : OTab w b fs fd) : OTab w.drew b fs fd := h.keep (Below.refl _ _).drew
theorem OTab.drewN (h : OTab w b fs fd) (n : Nat) : OTab (w.drewN n) b fs fd := h.keep (below_drewN (Below.refl _ _) n)
theorem OTab.alloc (h : OTab w b fs fd) (o : Obj) : OTab (w.alloc o) b fs fd := h.keep ((Below.refl _ _).alloc (Nat.le_refl _) o)
theorem set_other {i j : Nat} {v u : Value} (hij : i ≠ j) (h : w.cell? ⟨b, j, none⟩ = some u) : (w.setCell ⟨b, i, none⟩ v).cell? ⟨b, j, none⟩ = some u := by
  rw [World.cell?_setCell_other]
  · exact h
  · intro e; exact hij (by simpa using congrArg Addr.off e)
theorem set_same {i : Nat} {v u : Value} (h : w.cell? ⟨b, i, none⟩ = some u) : (w.setCell ⟨b, i, none⟩ v).cell? ⟨b, i, none⟩ = some v := by
  simp [go_sem, h]
/-- a store into field f of file k -/
theorem OTab.setF (h : OTab w b fs fd) {k f : Nat} (hk : k < 32) (hf : f < 6) {v : Value} {e : F}
    (e0 : some (if f = 0 then v else .int .i64 (fs k).kind) = some (.int .i64 e.kind)) (e1 : some (if f = 1 then v else .int .i64 (fs k).id) = some (.int .i64 e.id)) (e2 : some (if f = 2 then v else .int .i64 (fs k).may) = some (.int .i64 e.may))
    (e3 : some (if f = 3 then v else .bool (fs k).more) = some (.bool e.more)) (e4 : some (if f = 4 then v else .int .i64 (fs k).pos) = some (.int .i64 e.pos)) (e5 : some (if f = 5 then v else .int .i64 (fs k).n) = some (.int .i64 e.n)) :
    OTab (w.setCell ⟨b, k * 6 + f, none⟩ v) b (updF fs k e) fd := by
  refine ⟨by simpa using h.lt, fun i => by rw [World.frozen?_setCell]; exact h.fz i, h.le, ?_, ?_, ?_, ?_, ?_, ?_, ?_⟩
  · intro j hj
    by_cases ej : j = k
    · subst ej; rw [updF_same, ← e0]
      by_cases ef : f = 0
      · subst ef; rw [if_pos rfl]; exact set_same (h.c0 _ hk)
      · rw [if_neg ef]; exact set_other (by omega) (h.c0 _ hk)
    · rw [updF_other _ _ ej]; exact set_other (by omega) (h.c0 j hj)
  · intro j hj
    by_cases ej : j = k
    · subst ej; rw [updF_same, ← e1]
      by_cases ef : f = 1
      · subst ef; rw [if_pos rfl]; exact set_same (h.c1 _ hk)
      · rw [if_neg ef]; exact set_other (by omega) (h.c1 _ hk)
    · rw [updF_other _ _ ej]; exact set_other (by omega) (h.c1 j hj)
  · intro j hj
    by_cases ej : j = k
    · subst ej; rw [updF_same, ← e2]
      by_cases ef : f = 2
      · subst ef; rw [if_pos rfl]; exact set_same (h.c2 _ hk)
      · rw [if_neg ef]; exact set_other (by omega) (h.c2 _ hk)
    · rw [updF_other _ _ ej]; exact set_other (by omega) (h.c2 j hj)
  · intro j hj
    by_cases ej : j = k
    · subst ej; rw [updF_same, ← e3]
      by_cases ef : f = 3
      · subst ef; rw [if_pos rfl]; exact set_same (h.c3 _ hk)
      · rw [if_neg ef]; exact set_other (by omega) (h.c3 _ hk)
    · rw [updF_other _ _ ej]; exact set_other (by omega) (h.c3 j hj)
  · intro j hj
    by_cases ej : j = k
    · subst ej; rw [updF_same, ← e4]
      by_cases ef : f = 4
      · subst ef; rw [if_pos rfl]; exact set_same (h.c4 _ hk)
      · rw [if_neg ef]; exact set_other (by omega) (h.c4 _ hk)
    · rw [updF_other _ _ ej]; exact set_other (by omega) (h.c4 j hj)
  · intro j hj
    by_cases ej : j = k
    · subst ej; rw [updF_same, ← e5]
      by_cases ef : f = 5
      · subst ef; rw [if_pos rfl]; exact set_same (h.c5 _ hk)
      · rw [if_neg ef]; exact set_other (by omega) (h.c5 _ hk)
    · rw [updF_other _ _ ej]; exact set_other (by omega) (h.c5 j hj)
  · intro p j hp hj
    exact set_other (by omega) (h.d p j hp hj)
theorem OTab.setN (h : OTab w b fs fd) {k : Nat} (hk : k < 32) (x : Int) : OTab (w.setCell ⟨b, k * 6 + 5, none⟩ (.int .i64 x)) b (updF fs k { fs k with n := x }) fd := h.setF hk (by decide) rfl rfl rfl rfl rfl rfl
theorem OTab.setPos (h : OTab w b fs fd) {k : Nat} (hk : k < 32) (x : Int) : OTab (w.setCell ⟨b, k * 6 + 4, none⟩ (.int .i64 x)) b (updF fs k { fs k with pos := x }) fd := h.setF hk (by decide) rfl rfl rfl rfl rfl rfl
theorem OTab.setD (h : OTab w b fs fd) {p j : Nat} (hp : p < 17) (hj : j < 8) {x : Nat} (hx : x ≤ 32) : OTab (w.setCell ⟨b, 192 + p * 8 + j, none⟩ (.int .i64 x)) b fs (updN fd (p * 8 + j) x) := by
  refine ⟨by simpa using h.lt, fun i => by rw [World.frozen?_setCell]; exact h.fz i, ?_, ?_, ?_, ?_, ?_, ?_, ?_, ?_⟩
  · intro i
    unfold updN
    split
    · exact hx
    · exact h.le i
  · exact fun k hk => set_other (by omega) (h.c0 k hk)
  · exact fun k hk => set_other (by omega) (h.c1 k hk)
  · exact fun k hk => set_other (by omega) (h.c2 k hk)
  · exact fun k hk => set_other (by omega) (h.c3 k hk)
  · exact fun k hk => set_other (by omega) (h.c4 k hk)
  · exact fun k hk => set_other (by omega) (h.c5 k hk)
  · intro p' j' hp' hj'
    by_cases e : p' * 8 + j' = p * 8 + j
    · have h1 : p' = p := by omega
      have h2 : j' = j := by omega
      subst h1; subst h2
      rw [updN_same]; exact set_same (h.d _ _ hp hj)
    · rw [updN_other _ _ e]; exact set_other (by omega) (h.d p' j' hp' hj')
end

theorem owner_any (n : Int) (w : World) : Calls Tryz.prog 149 #[.int .i64 n] w fun e w' => e = .returned (.bool (decide (1 ≤ n) && decide (n ≤ 16))) ∧ w = w' := by
  by_cases h1 : 1 ≤ n
  · by_cases h2 : n ≤ 16
    · go_enter Tryz.func149, Tryz.ntmps149
      go_wp2
      go_ret
      exact ⟨by simp [h1, h2], rfl⟩
    · go_enter Tryz.func149, Tryz.ntmps149
      go_wp2
      go_ret
      exact ⟨by simp [h1, h2], rfl⟩
  · go_enter Tryz.func149, Tryz.ntmps149
    go_wp2
    go_ret
    exact ⟨by rw [show decide (1 ≤ n) = false from by simp; omega]; rfl, rfl⟩
theorem owner_is {p : Nat} (h1 : 1 ≤ p) (h2 : p ≤ 16) (w : World) : Calls Tryz.prog 149 #[.int .i64 p] w fun e w' => e = .returned (.bool true) ∧ w = w' := by
  have := owner_any p w
  rw [show (decide ((1 : Int) ≤ p) && decide ((p : Int) ≤ 16)) = true from by simp; omega] at this
  exact this
def FindPost (b : Nat) (x : Nat) (w : World) (e : Ending) (w' : World) : Prop :=
  e = .returned (.tuple #[if x = 0 then .pointer none else .pointer (some ⟨b, (x - 1) * 6, none⟩), .int .i64 (if x = 0 then 4 else 0)]) ∧ Below w.heap.size w w'
set_option maxHeartbeats 400000 in
theorem find_is {w : World} {b p j : Nat} {fs : Nat → F} {fd : Nat → Nat} (h : OTab w b fs fd) (h1 : 1 ≤ p) (h2 : p ≤ 16) (hj : j < 8) : Calls Tryz.prog 161 #[.pointer (some ⟨b, 0, none⟩), .int .i64 p, .int .i64 j] w (FindPost b (fd (p * 8 + j)) w) := by
  have hc := h.d p j (by omega) hj
  have hle := h.le (p * 8 + j)
  have HO := Lib.hid (owner_is h1 h2 w)
  have hpi : (p : Int) < 17 := by omega
  have hji : (j : Int) < 8 := by omega
  have g2 : decide ((8 : Int) ≤ j) = false := by simp; omega
  have g5 : ¬ (8 ≤ j) := by omega
  unfold FindPost
  generalize fd (p * 8 + j) = x at *
  clear h h1 h2
  by_cases hx : x = 0
  · subst hx
    go_enter Tryz.func161, Tryz.ntmps161
    go_wp2_with fail
    refine HO.out.mono ?_
    rintro e w1 ⟨rfl, rfl⟩
    go_wp2
    go_ret2
    exact ⟨rfl, Below.refl _ _⟩
  · obtain ⟨k, rfl⟩ : ∃ k, x = k + 1 := ⟨x - 1, by omega⟩
    have hki : (k : Int) < 32 := by omega
    rw [show ((k + 1 : Nat) : Int) = (k : Int) + 1 from rfl] at hc
    have hne : ((k : Int) + 1 == 0) = false := by simp; omega
    clear hx hle
    go_enter Tryz.func161, Tryz.ntmps161
    go_wp2_with fail
    refine HO.out.mono ?_
    rintro e w1 ⟨rfl, rfl⟩
    go_wp2_with fail
    go_region
    go_wp2
    go_ret2
    exact ⟨rfl, (Below.refl _ _).drew⟩
end Go.Proofs.YtdkbmkapnapahaaGreatDoor.OpenLaw
