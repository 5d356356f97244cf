/- The walks of package proc: New, number, living, State, Parent. -/
import Derived.Test.YtgdihccmkleimaaProcPlain
import Derived.Test.YtgdihccmkleimaaCommon
import Derived.Test.YtgdihccmkleimaaTab
import Derived.WalkSmall
import Derived.BigQuiet
import Derived.BigRegion
namespace Go.Proofs.Ytgdihccmkleimaa.ProcLaw
open Go.RowKit
set_option linter.unusedVariables false

structure TabAt (w : World) (b : Nat) (t : T) : Prop where
  lt : b < w.heap.size
  fz : ∀ i, w.frozen? ⟨b, i, none⟩ = false
  st : ∀ k, k < 17 → w.cell? ⟨b, k * 4, none⟩ = some (.int .i64 (t k).st)
  par : ∀ k, k < 17 → w.cell? ⟨b, k * 4 + 1, none⟩ = some (.int .i64 (t k).par)
  gr : ∀ k, k < 17 → w.cell? ⟨b, k * 4 + 2, none⟩ = some (.int .i64 (t k).gr)
  code : ∀ k, k < 17 → w.cell? ⟨b, k * 4 + 3, none⟩ = some (.int .i64 (t k).code)
theorem TabAt.keep {w w' : World} {b : Nat} {t : T} (h : TabAt w b t) (hb : Below w.heap.size w w') : TabAt w' b t := by
  refine ⟨Nat.lt_of_lt_of_le h.lt hb.size, fun i => (hb.frozen (p := ⟨b, i, none⟩) h.lt).trans (h.fz i), ?_, ?_, ?_, ?_⟩ <;> intro k hk
  · exact (hb.cell (p := ⟨b, _, none⟩) h.lt).trans (h.st k hk)
  · exact (hb.cell (p := ⟨b, _, none⟩) h.lt).trans (h.par k hk)
  · exact (hb.cell (p := ⟨b, _, none⟩) h.lt).trans (h.gr k hk)
  · exact (hb.cell (p := ⟨b, _, none⟩) h.lt).trans (h.code k hk)
theorem TabAt.drew {w : World} {b : Nat} {t : T} (h : TabAt w b t) : TabAt w.drew b t := h.keep (Below.refl _ _).drew
theorem set_other {w : World} {b i j : Nat} {v u : Value} (hij : i ≠ j) (h : w.cell? ⟨b, j, none⟩ = some u) : (w.setCell ⟨b, i, none⟩ v).cell? ⟨b, j, none⟩ = some u := by
  rw [World.cell?_setCell_other]
  · exact h
  · intro e; exact hij (by simpa using congrArg Addr.off e)
theorem set_same {w : World} {b i : Nat} {v u : Value} (h : w.cell? ⟨b, i, none⟩ = some u) : (w.setCell ⟨b, i, none⟩ v).cell? ⟨b, i, none⟩ = some v := by
  simp [go_sem, h]
theorem TabAt.setSt {w : World} {b k : Nat} {t : T} (h : TabAt w b t) (hk : k < 17) (x : Int) : TabAt (w.setCell ⟨b, k * 4, none⟩ (.int .i64 x)) b (updE t k ⟨x, (t k).par, (t k).gr, (t k).code⟩) := by
  refine ⟨by simpa using h.lt, fun i => by rw [World.frozen?_setCell]; exact h.fz i, ?_, ?_, ?_, ?_⟩ <;> intro j hj <;> by_cases e : j = k
  · subst e; rw [updE_same]; exact set_same (h.st _ hk)
  · rw [updE_other _ _ e]; exact set_other (by omega) (h.st j hj)
  · subst e; rw [updE_same]; exact set_other (by omega) (h.par _ hk)
  · rw [updE_other _ _ e]; exact set_other (by omega) (h.par j hj)
  · subst e; rw [updE_same]; exact set_other (by omega) (h.gr _ hk)
  · rw [updE_other _ _ e]; exact set_other (by omega) (h.gr j hj)
  · subst e; rw [updE_same]; exact set_other (by omega) (h.code _ hk)
  · rw [updE_other _ _ e]; exact set_other (by omega) (h.code j hj)
theorem TabAt.setPar {w : World} {b k : Nat} {t : T} (h : TabAt w b t) (hk : k < 17) (x : Int) : TabAt (w.setCell ⟨b, k * 4 + 1, none⟩ (.int .i64 x)) b (updE t k ⟨(t k).st, x, (t k).gr, (t k).code⟩) := by
  refine ⟨by simpa using h.lt, fun i => by rw [World.frozen?_setCell]; exact h.fz i, ?_, ?_, ?_, ?_⟩ <;> intro j hj <;> by_cases e : j = k
  · subst e; rw [updE_same]; exact set_other (by omega) (h.st _ hk)
  · rw [updE_other _ _ e]; exact set_other (by omega) (h.st j hj)
  · subst e; rw [updE_same]; exact set_same (h.par _ hk)
  · rw [updE_other _ _ e]; exact set_other (by omega) (h.par j hj)
  · subst e; rw [updE_same]; exact set_other (by omega) (h.gr _ hk)
  · rw [updE_other _ _ e]; exact set_other (by omega) (h.gr j hj)
  · subst e; rw [updE_same]; exact set_other (by omega) (h.code _ hk)
  · rw [updE_other _ _ e]; exact set_other (by omega) (h.code j hj)
theorem TabAt.setGr {w : World} {b k : Nat} {t : T} (h : TabAt w b t) (hk : k < 17) (x : Int) : TabAt (w.setCell ⟨b, k * 4 + 2, none⟩ (.int .i64 x)) b (updE t k ⟨(t k).st, (t k).par, x, (t k).code⟩) := by
  refine ⟨by simpa using h.lt, fun i => by rw [World.frozen?_setCell]; exact h.fz i, ?_, ?_, ?_, ?_⟩ <;> intro j hj <;> by_cases e : j = k
  · subst e; rw [updE_same]; exact set_other (by omega) (h.st _ hk)
  · rw [updE_other _ _ e]; exact set_other (by omega) (h.st j hj)
  · subst e; rw [updE_same]; exact set_other (by omega) (h.par _ hk)
  · rw [updE_other _ _ e]; exact set_other (by omega) (h.par j hj)
  · subst e; rw [updE_same]; exact set_same (h.gr _ hk)
  · rw [updE_other _ _ e]; exact set_other (by omega) (h.gr j hj)
  · subst e; rw [updE_same]; exact set_other (by omega) (h.code _ hk)
  · rw [updE_other _ _ e]; exact set_other (by omega) (h.code j hj)
theorem TabAt.setCode {w : World} {b k : Nat} {t : T} (h : TabAt w b t) (hk : k < 17) (x : Int) : TabAt (w.setCell ⟨b, k * 4 + 3, none⟩ (.int .i64 x)) b (updE t k ⟨(t k).st, (t k).par, (t k).gr, x⟩) := by
  refine ⟨by simpa using h.lt, fun i => by rw [World.frozen?_setCell]; exact h.fz i, ?_, ?_, ?_, ?_⟩ <;> intro j hj <;> by_cases e : j = k
  · subst e; rw [updE_same]; exact set_other (by omega) (h.st _ hk)
  · rw [updE_other _ _ e]; exact set_other (by omega) (h.st j hj)
  · subst e; rw [updE_same]; exact set_other (by omega) (h.par _ hk)
  · rw [updE_other _ _ e]; exact set_other (by omega) (h.par j hj)
  · subst e; rw [updE_same]; exact set_other (by omega) (h.gr _ hk)
  · rw [updE_other _ _ e]; exact set_other (by omega) (h.gr j hj)
  · subst e; rw [updE_same]; exact set_same (h.code _ hk)
  · rw [updE_other _ _ e]; exact set_other (by omega) (h.code j hj)
theorem updE_twice (t : T) (k : Nat) (e e' : E) : updE (updE t k e) k e' = updE t k e' := by
  funext j; by_cases h : j = k <;> simp [updE, h]
theorem TabAt.set4 {w : World} {b k : Nat} {t : T} (h : TabAt w b t) (hk : k < 17) (x y z u : Int) : TabAt ((((w.setCell ⟨b, k * 4, none⟩ (.int .i64 x)).setCell ⟨b, k * 4 + 1, none⟩ (.int .i64 y)).setCell ⟨b, k * 4 + 2, none⟩ (.int .i64 z)).setCell ⟨b, k * 4 + 3, none⟩ (.int .i64 u)) b (updE t k ⟨x, y, z, u⟩) := by
  have h4 := (((h.setSt hk x).setPar hk y).setGr hk z).setCode hk u
  simpa [updE_twice, updE_same] using h4

theorem number_any (n : Int) (w : World) : Calls Try.prog 64 #[.int .i64 n] w fun e w' => e = .returned (.bool (decide (1 ≤ n) && decide (n ≤ 16))) ∧ w = w' := by
  by_cases h1 : 1 ≤ n
  · by_cases h2 : n ≤ 16
    · go_enter Try.func64, Try.ntmps64
      go_wp2
      go_ret
      exact ⟨by simp [h1, h2], rfl⟩
    · go_enter Try.func64, Try.ntmps64
      go_wp2
      go_ret
      exact ⟨by simp [h1, h2], rfl⟩
  · go_enter Try.func64, Try.ntmps64
    go_wp2
    go_ret
    exact ⟨by rw [show decide (1 ≤ n) = false from by simp; omega]; rfl, rfl⟩
def livR (t : T) (p : Int) : Int := if 1 ≤ p ∧ p ≤ 16 then (if (t p.toNat).st = 1 then 0 else 4) else 1
theorem living_is {w : World} {b : Nat} {t : T} (p : Int) (h : TabAt w b t) : Calls Try.prog 72 #[.pointer (some ⟨b, 0, none⟩), .int .i64 p] w fun e w' => e = .returned (.int .i64 (livR t p)) ∧ w = w' := by
  by_cases hp : 1 ≤ p ∧ p ≤ 16
  · have hd : (decide (1 ≤ p) && decide (p ≤ 16)) = true := by simp; omega
    obtain ⟨k, rfl⟩ : ∃ k : Nat, p = k := ⟨p.toNat, by omega⟩
    have hk : (k : Int) < 17 := by omega
    have hc := h.st k (by omega)
    have hl : livR t k = if (t k).st = 1 then 0 else 4 := by unfold livR; rw [if_pos hp]; simp
    have HL := Lib.hid hl
    have HD := Lib.hid hd
    clear hl hd hp
    generalize (t k).st = x at *
    by_cases hx : x = 1
    · subst hx
      go_enter Try.func72, Try.ntmps72
      go_wp2_with fail
      refine (number_any _ _).mono ?_
      rintro e w1 ⟨rfl, rfl⟩
      rw [HD.out]
      go_wp2
      go_ret
      exact ⟨ret_int (by rw [HL.out]; simp), rfl⟩
    · have hx' : (x != 1) = true := by simp [hx]
      have HX := Lib.hid hx
      clear hx
      go_enter Try.func72, Try.ntmps72
      go_wp2_with fail
      refine (number_any _ _).mono ?_
      rintro e w1 ⟨rfl, rfl⟩
      rw [HD.out]
      go_wp2
      go_ret
      exact ⟨ret_int (by rw [HL.out, if_neg HX.out]), rfl⟩
  · have hd : (decide (1 ≤ p) && decide (p ≤ 16)) = false := by simp; omega
    have HL := Lib.hid (show livR t p = 1 from if_neg hp)
    clear hp
    go_enter Try.func72, Try.ntmps72
    go_wp2_with fail
    refine (number_any _ _).mono ?_
    rintro e w1 ⟨rfl, rfl⟩
    rw [hd]
    go_wp2
    go_ret
    exact ⟨ret_int (by rw [HL.out]), rfl⟩
theorem livR_zero {t : T} {p : Int} (h : livR t p = 0) : ∃ k : Nat, p = k ∧ alive t k := by
  unfold livR at h
  by_cases hp : 1 ≤ p ∧ p ≤ 16
  · rw [if_pos hp] at h
    by_cases hs : (t p.toNat).st = 1
    · exact ⟨p.toNat, by omega, by omega, by omega, hs⟩
    · rw [if_neg hs] at h; cases h
  · rw [if_neg hp] at h; cases h
theorem livR_alive {t : T} {k : Nat} (h : alive t k) : livR t k = 0 := by
  obtain ⟨h1, h2, h3⟩ := h
  unfold livR
  rw [if_pos (by omega), if_pos (by simpa using h3)]
theorem state_is {w : World} {b k : Nat} {t : T} (h : TabAt w b t) (h1 : 1 ≤ k) (h2 : k ≤ 16) : Calls Try.prog 45 #[.pointer (some ⟨b, 0, none⟩), .int .i64 k] w fun e w' => e = .returned (.tuple #[.int .i64 (t k).st, .int .i64 0]) ∧ w = w' := by
  have hd : (decide (1 ≤ (k : Int)) && decide ((k : Int) ≤ 16)) = true := by simp; omega
  have hk : (k : Int) < 17 := by omega
  have hc := h.st k (by omega)
  have HD := Lib.hid hd
  clear hd
  go_enter Try.func45, Try.ntmps45
  go_wp2_with fail
  refine (number_any _ _).mono ?_
  rintro e w1 ⟨rfl, rfl⟩
  rw [HD.out]
  go_wp2
  go_ret2
  exact ⟨rfl, rfl⟩
theorem parent_is {w : World} {b k : Nat} {t : T} (h : TabAt w b t) (h1 : 1 ≤ k) (h2 : k ≤ 16) (hn : (t k).st ≠ 0) : Calls Try.prog 46 #[.pointer (some ⟨b, 0, none⟩), .int .i64 k] w fun e w' => e = .returned (.tuple #[.int .i64 (t k).par, .int .i64 0]) ∧ w = w' := by
  have hd : (decide (1 ≤ (k : Int)) && decide ((k : Int) ≤ 16)) = true := by simp; omega
  have hk : (k : Int) < 17 := by omega
  have hc := h.st k (by omega)
  have hp := h.par k (by omega)
  have hn' : ((t k).st == 0) = false := by simp [hn]
  have HD := Lib.hid hd
  clear hd hn
  go_enter Try.func46, Try.ntmps46
  go_wp2_with fail
  refine (number_any _ _).mono ?_
  rintro e w1 ⟨rfl, rfl⟩
  rw [HD.out]
  go_wp2
  go_ret2
  exact ⟨rfl, rfl⟩
def ints68 : List Int := [0, 0, 0, 0, 1, 0, 1, 0] ++ List.replicate 60 0
theorem ints_at : ∀ k : Fin 17, ints68[k.val * 4]? = some (start k.val).st ∧ ints68[k.val * 4 + 1]? = some (start k.val).par ∧ ints68[k.val * 4 + 2]? = some (start k.val).gr ∧ ints68[k.val * 4 + 3]? = some (start k.val).code := by decide +kernel
theorem tab_new (w : World) (Y : TypeId) : TabAt (w.alloc (.cells (ints68.map (Value.int .i64)).toArray Y)) w.heap.size start := by
  have h := has_new w (ints68.map (Value.int .i64)) Y
  refine ⟨h.1, fun i => frozen_of_row _ _ _ _ _ (heap_alloc_new _ _), ?_, ?_, ?_, ?_⟩ <;> intro k hk <;> apply h.2 <;> rw [List.getElem?_map]
  · rw [(ints_at ⟨k, hk⟩).1]; rfl
  · rw [(ints_at ⟨k, hk⟩).2.1]; rfl
  · rw [(ints_at ⟨k, hk⟩).2.2.1]; rfl
  · rw [(ints_at ⟨k, hk⟩).2.2.2]; rfl
set_option maxRecDepth 100000 in
theorem new_is (w : World) : Calls Try.prog 60 #[] w fun e w' => e = .returned (.pointer (some ⟨w.heap.size, 0, none⟩)) ∧ Below w.heap.size w w' ∧ TabAt w' w.heap.size start := by
  go_enter Try.func60, Try.ntmps60
  go_wp2
  go_ret
  exact ⟨rfl, (Below.refl _ _).alloc (Nat.le_refl _) _, tab_new w 125⟩
end Go.Proofs.Ytgdihccmkleimaa.ProcLaw
