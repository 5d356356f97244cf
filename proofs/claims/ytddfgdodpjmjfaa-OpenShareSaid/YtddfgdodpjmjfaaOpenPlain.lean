/- Plain law of the table of open things: each file counts the descriptors that point to it; how many files are open. -/
import Derived.Test.YtddfgdodpjmjfaaOpenFork
namespace Go.Proofs.Ytddfgdodpjmjfaa.OpenLaw
set_option linter.unusedVariables false

def cntTo (fd : Nat → Nat) (x : Nat) : Nat → Nat
  | 0 => 0
  | n + 1 => cntTo fd x n + if fd n = x then 1 else 0
def live (fs : Nat → F) : Nat → Nat
  | 0 => 0
  | n + 1 => live fs n + if (fs n).n = 0 then 0 else 1
theorem cnt_upd (fd : Nat → Nat) (q y x n : Nat) : cntTo (updN fd q y) x n + (if q < n ∧ fd q = x then 1 else 0) = cntTo fd x n + (if q < n ∧ y = x then 1 else 0) := by
  induction n with
  | zero => simp [cntTo]
  | succ n ih =>
    simp only [cntTo]
    by_cases e : n = q
    · subst e
      rw [updN_same]
      simp only [Nat.lt_irrefl, false_and, if_false, Nat.lt_succ_self, true_and] at ih ⊢
      omega
    · rw [updN_other _ _ e]
      have e1 : (q < n + 1) ↔ (q < n) := by omega
      simp only [e1]
      omega
theorem live_upd (fs : Nat → F) (k : Nat) (e : F) (n : Nat) : live (updF fs k e) n + (if k < n ∧ (fs k).n ≠ 0 then 1 else 0) = live fs n + (if k < n ∧ e.n ≠ 0 then 1 else 0) := by
  induction n with
  | zero => simp [live]
  | succ n ih =>
    simp only [live]
    by_cases h : n = k
    · subst h
      rw [updF_same]
      simp only [Nat.lt_irrefl, false_and, if_false, Nat.lt_succ_self, true_and] at ih ⊢
      split <;> split <;> simp_all <;> omega
    · rw [updF_other _ _ h]
      have e1 : (k < n + 1) ↔ (k < n) := by omega
      simp only [e1]
      omega
theorem cnt_le (fd : Nat → Nat) (x n : Nat) : cntTo fd x n ≤ n := by
  induction n with
  | zero => exact Nat.le_refl _
  | succ n ih => simp only [cntTo]; split <;> omega
theorem cnt_pos {fd : Nat → Nat} {q x n : Nat} (hq : q < n) (h : fd q = x) : 1 ≤ cntTo fd x n := by
  induction n with
  | zero => omega
  | succ n ih =>
    simp only [cntTo]
    by_cases e : q = n
    · subst e; rw [if_pos h]; omega
    · have := ih (by omega); omega
theorem cnt_zero {fd : Nat → Nat} {x n : Nat} (h : ∀ q, q < n → fd q ≠ x) : cntTo fd x n = 0 := by
  induction n with
  | zero => rfl
  | succ n ih => simp only [cntTo]; rw [ih (fun q hq => h q (by omega)), if_neg (h n (by omega))]
theorem live_zero {fs : Nat → F} {n : Nat} (h : ∀ k, k < n → (fs k).n = 0) : live fs n = 0 := by
  induction n with
  | zero => rfl
  | succ n ih => simp only [live]; rw [ih (fun q hq => h q (by omega)), if_pos (h n (by omega))]
theorem live_le (fs : Nat → F) (n : Nat) : live fs n ≤ n := by
  induction n with
  | zero => exact Nat.le_refl _
  | succ n ih => simp only [live]; split <;> omega
structure Inv (fs : Nat → F) (fd : Nat → Nat) : Prop where
  c : ∀ k, k < 32 → (fs k).n = cntTo fd (k + 1) 136
  z : ∀ i, i < 8 → fd i = 0
theorem Inv.nn {fs : Nat → F} {fd : Nat → Nat} (h : Inv fs fd) (k : Nat) (hk : k < 32) : 0 ≤ (fs k).n ∧ (fs k).n ≤ 200 := by
  rw [h.c k hk]
  have := cnt_le fd (k + 1) 136
  omega
theorem Inv.pos {fs : Nat → F} {fd : Nat → Nat} (h : Inv fs fd) {k q : Nat} (hk : k < 32) (hq : q < 136) (e : fd q = k + 1) : 0 < (fs k).n := by
  rw [h.c k hk]
  have := cnt_pos hq e
  omega
theorem inv_new : Inv (fun _ => f0) (fun _ => 0) := ⟨fun k _ => by rw [cnt_zero (fun q _ => by omega)]; rfl, fun _ _ => rfl⟩
theorem Inv.add {fs : Nat → F} {fd : Nat → Nat} (h : Inv fs fd) {q k : Nat} (h8 : 8 ≤ q) (hq : q < 136) (h0 : fd q = 0) (hk : k < 32) (e : F) (he : e.n = (fs k).n + 1) :
    Inv (updF fs k e) (updN fd q (k + 1)) ∧ live (updF fs k e) 32 = live fs 32 + if (fs k).n = 0 then 1 else 0 := by
  refine ⟨⟨fun k' hk' => ?_, fun i hi => by rw [updN_other _ _ (by omega)]; exact h.z i hi⟩, ?_⟩
  · have c := cnt_upd fd q (k + 1) (k' + 1) 136
    rw [h0, if_neg (by omega)] at c
    by_cases ek : k' = k
    · subst ek
      rw [updF_same, he, h.c _ hk]
      rw [if_pos ⟨hq, rfl⟩] at c
      omega
    · rw [updF_other _ _ ek, h.c _ hk']
      rw [if_neg (by omega)] at c
      omega
  · have l := live_upd fs k e 32
    have := (h.nn k hk).1
    rw [if_pos (show k < 32 ∧ e.n ≠ 0 from ⟨hk, by omega⟩)] at l
    by_cases z : (fs k).n = 0
    · rw [if_pos z]
      rw [if_neg (by intro x; exact x.2 z)] at l
      omega
    · rw [if_neg z]
      rw [if_pos ⟨hk, z⟩] at l
      omega
theorem Inv.close {fs : Nat → F} {fd : Nat → Nat} (h : Inv fs fd) {q k : Nat} (hq : q < 136) (h0 : fd q = k + 1) (hk : k < 32) :
    Inv (updF fs k { fs k with n := (fs k).n - 1 }) (updN fd q 0) ∧ live (updF fs k { fs k with n := (fs k).n - 1 }) 32 + (if (fs k).n = 1 then 1 else 0) = live fs 32 := by
  have hp := h.pos hk hq h0
  refine ⟨⟨fun k' hk' => ?_, fun i hi => by unfold updN; split; rfl; exact h.z i hi⟩, ?_⟩
  · have c := cnt_upd fd q 0 (k' + 1) 136
    rw [h0, if_neg (show ¬ (q < 136 ∧ 0 = k' + 1) by omega)] at c
    by_cases ek : k' = k
    · subst ek
      rw [updF_same]
      show (fs k').n - 1 = _
      rw [h.c _ hk]
      rw [if_pos ⟨hq, rfl⟩] at c
      omega
    · rw [updF_other _ _ ek, h.c _ hk']
      rw [if_neg (by omega)] at c
      omega
  · have l := live_upd fs k { fs k with n := (fs k).n - 1 } 32
    rw [if_pos (show k < 32 ∧ (fs k).n ≠ 0 from ⟨hk, by omega⟩)] at l
    by_cases z : (fs k).n = 1
    · rw [if_pos z]
      rw [if_neg (show ¬ (k < 32 ∧ (fs k).n - 1 ≠ 0) by omega)] at l
      omega
    · rw [if_neg z]
      rw [if_pos (show k < 32 ∧ (fs k).n - 1 ≠ 0 from ⟨hk, by omega⟩)] at l
      omega
theorem Inv.fork {fs : Nat → F} {fd : Nat → Nat} (h : Inv fs fd) (hle : ∀ i, fd i ≤ 32) {p c : Nat} (h1 : 1 ≤ p) (h2 : p ≤ 16) (h3 : 1 ≤ c) (h4 : c ≤ 16) (hpc : p ≠ c) (hb : ∀ i, i < 8 → fd (c * 8 + i) = 0) (n : Nat) (hn : n ≤ 8) :
    Inv (fkF fs (fun i => fd (p * 8 + i)) n) (cpD fd p c n) ∧ live (fkF fs (fun i => fd (p * 8 + i)) n) 32 = live fs 32 := by
  induction n with
  | zero => exact ⟨h, rfl⟩
  | succ n ih =>
    obtain ⟨I, L⟩ := ih (by omega)
    have cur : cpD fd p c n (c * 8 + n) = 0 := by rw [cpD_at, if_neg (by omega)]; exact hb n (by omega)
    have src : cpD fd p c n (p * 8 + n) = fd (p * 8 + n) := by rw [cpD_at, if_neg (by omega)]
    simp only [fkF, cpD]
    by_cases z : fd (p * 8 + n) = 0
    · rw [if_pos z, z]
      refine ⟨?_, L⟩
      rw [show updN (cpD fd p c n) (c * 8 + n) 0 = cpD fd p c n from by funext i; unfold updN; split; rename_i e; rw [e, cur]; rfl]
      exact I
    · rw [if_neg z]
      obtain ⟨k, hk⟩ : ∃ k, fd (p * 8 + n) = k + 1 := ⟨fd (p * 8 + n) - 1, by omega⟩
      have hk32 : k < 32 := by have := hle (p * 8 + n); omega
      rw [hk, Nat.add_sub_cancel]
      have hp := I.pos (q := p * 8 + n) hk32 (by omega) (by rw [src, hk])
      obtain ⟨I', L'⟩ := I.add (q := c * 8 + n) (by omega) (by omega) cur hk32 { fkF fs (fun i => fd (p * 8 + i)) n k with n := (fkF fs (fun i => fd (p * 8 + i)) n k).n + 1 } rfl
      rw [if_neg (by omega)] at L'
      exact ⟨I', by rw [L', L]; rfl⟩
theorem Inv.dead {fs : Nat → F} {fd : Nat → Nat} (h : Inv fs fd) (hz : ∀ i, i < 136 → fd i = 0) : live fs 32 = 0 :=
  live_zero fun k hk => by rw [h.c k hk, cnt_zero (fun q hq => by rw [hz q hq]; omega)]; rfl
end Go.Proofs.Ytddfgdodpjmjfaa.OpenLaw
