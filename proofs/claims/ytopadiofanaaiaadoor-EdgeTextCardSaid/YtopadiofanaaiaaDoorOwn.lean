/- Slices of the call's own: what keeps them. No program here. -/
import Derived.Test.YtopadiofanaaiaaDoorBase
import Derived.OwnWalk
namespace Go.Proofs.YtopadiofanaaiaaDoor
open Go.RowKit
set_option linter.unusedVariables false
set_option linter.unusedSimpArgs false
theorem owns_keep {w w' : World} {B e s n : Nat} {v : Value} {l : List Value} (h : w.ownsRow B e s v n l) (hb : Below w.heap.size w w') : w'.ownsRow B e s v n l :=
  h.kept (row := none) ⟨hb.os, hb.tape, hb.output, hb.size, fun k hk _ => hb.block k hk⟩ (by cases hv : v.ownBlock <;> simp)
theorem own_form {w : World} {B e n : Nat} {v : Value} {l : List Value} {s : Nat} (h : w.ownsRow B e s v n l) : ∃ p cap, v = .slice p n cap := by
  rcases h.2 with ⟨rfl, hn⟩ | ⟨g, cap', cur, rfl, _⟩
  · exact ⟨none, 0, by rw [hn]⟩
  · exact ⟨_, cap', rfl⟩
theorem owns_base {w : World} {B B' e s n : Nat} {v : Value} {l : List Value} (h : w.ownsRow B e s v n l) (hB : B' ≤ B) : w.ownsRow B' e s v n l := by
  refine ⟨h.1, ?_⟩
  rcases h.2 with h | ⟨g, cap, cur, h1, h2, h3⟩
  · exact .inl h
  · exact .inr ⟨g, cap, cur, h1, Nat.le_trans hB h2, h3⟩
/-- a store into another block -/
theorem owns_set {w : World} {B e s n c i : Nat} {v x : Value} {l : List Value} (h : w.ownsRow B e s v n l) (hc : v.ownBlock ≠ some c) : (w.setCell ⟨c, i, none⟩ x).ownsRow B e s v n l := by
  refine h.kept (row := some c) ⟨rfl, rfl, rfl, by simp [World.setCell], fun k hk hne => Below.heap_setCell _ _ _ _ (by intro e; exact hne (by rw [e]))⟩ ?_
  exact .inr hc
theorem far_row {w : World} {B e s n n3 : Nat} {v : Value} {l : List Value} (h : w.ownsRow B e s v n l) (hB : n3 < B) : v.ownBlock ≠ some n3 := fun e => by have := (h.lt n3 e).1; omega
theorem gb {w w' : World} (hb : Below w.heap.size w w') : w.grownBy w' none := ⟨hb.os, hb.tape, hb.output, hb.size, fun k hk _ => hb.block k hk⟩
/-- fewer elements of one's own -/
theorem owns_take {w : World} {B e n cap k : Nat} {a : Option Addr} {l : List Value} (h : w.ownsRow B e 1 (.slice a n cap) n l) (hk : k ≤ n) (h0 : 0 < n) : w.ownsRow B e 1 (.slice a k cap) k (l.take k) := by
  have hl := h.1
  refine ⟨by rw [List.length_take, hl]; omega, ?_⟩
  rcases h.2 with ⟨he, hn⟩ | ⟨g, c, cur, he, hb, hg, hnc, hcm, hcs, ht⟩
  · omega
  · simp only [Value.slice.injEq] at he
    obtain ⟨rfl, -, rfl⟩ := he
    refine .inr ⟨g, _, cur, rfl, hb, hg, by omega, hcm, hcs, ?_⟩
    rw [← ht]
    simp only [Nat.mul_one, List.take_take]
    congr 1
    omega
theorem own_block {w : World} {B e n cap : Nat} {a : Option Addr} {l : List Value} {s : Nat} (h : w.ownsRow B e s (.slice a n cap) n l) (h0 : 0 < n) : ∃ g, a = some ⟨g, 0, none⟩ ∧ B ≤ g ∧ g < w.heap.size ∧ n ≤ cap ∧ cap ≤ maxLen := by
  rcases h.2 with ⟨he, hn⟩ | ⟨g, c, cur, he, hb, hg, hnc, hcm, hcs, ht⟩
  · omega
  · simp only [Value.slice.injEq] at he
    obtain ⟨rfl, -, rfl⟩ := he
    exact ⟨g, rfl, hb, (Array.getElem?_eq_some_iff.1 hg).1, hnc, hcm⟩
end Go.Proofs.YtopadiofanaaiaaDoor
