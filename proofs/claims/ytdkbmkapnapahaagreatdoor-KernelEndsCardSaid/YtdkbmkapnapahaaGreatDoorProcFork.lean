/- Slices of the call's own: what keeps them. No program here. What a call may turn: the blocks of a set, and none but them; new ones may come. No program here. The walks of proc.Fork, Exit, Wait. -/
import Derived.Test.YtdkbmkapnapahaaGreatDoorBase
import Derived.OwnWalk
import Derived.Test.YtdkbmkapnapahaaGreatDoorProcWalk
namespace Go.Proofs.YtdkbmkapnapahaaGreatDoor
open Go.RowKit
set_option linter.unusedVariables false
set_option linter.unusedSimpArgs false
theorem owns_keep {w w' : World} {B e s n : Nat} {v : Value} {l : List Value} (h : w.ownsRow B e s v n l) (hb : Below w.heap.size w w') : w'.ownsRow B e s v n l :=
  h.kept (row := none) ⟨hb.os, hb.tape, hb.output, hb.size, fun k hk _ => hb.block k hk⟩ (by cases hv : v.ownBlock <;> simp)
theorem own_form {w : World} {B e n : Nat} {v : Value} {l : List Value} {s : Nat} (h : w.ownsRow B e s v n l) : ∃ p cap, v = .slice p n cap := by
  rcases h.2 with ⟨rfl, hn⟩ | ⟨g, cap', cur, rfl, _⟩
  · exact ⟨none, 0, by rw [hn]⟩
  · exact ⟨_, cap', rfl⟩
theorem owns_base {w : World} {B B' e s n : Nat} {v : Value} {l : List Value} (h : w.ownsRow B e s v n l) (hB : B' ≤ B) : w.ownsRow B' e s v n l := by
  refine ⟨h.1, ?_⟩
  rcases h.2 with h | ⟨g, cap, cur, h1, h2, h3⟩
  · exact .inl h
  · exact .inr ⟨g, cap, cur, h1, Nat.le_trans hB h2, h3⟩
/-- a store into another block -/
theorem owns_set {w : World} {B e s n c i : Nat} {v x : Value} {l : List Value} (h : w.ownsRow B e s v n l) (hc : v.ownBlock ≠ some c) : (w.setCell ⟨c, i, none⟩ x).ownsRow B e s v n l := by
  refine h.kept (row := some c) ⟨rfl, rfl, rfl, by simp [World.setCell], fun k hk hne => Below.heap_setCell _ _ _ _ (by intro e; exact hne (by rw [e]))⟩ ?_
  exact .inr hc
theorem far_row {w : World} {B e s n n3 : Nat} {v : Value} {l : List Value} (h : w.ownsRow B e s v n l) (hB : n3 < B) : v.ownBlock ≠ some n3 := fun e => by have := (h.lt n3 e).1; omega
theorem gb {w w' : World} (hb : Below w.heap.size w w') : w.grownBy w' none := ⟨hb.os, hb.tape, hb.output, hb.size, fun k hk _ => hb.block k hk⟩
/-- fewer elements of one's own -/
theorem owns_take {w : World} {B e n cap k : Nat} {a : Option Addr} {l : List Value} (h : w.ownsRow B e 1 (.slice a n cap) n l) (hk : k ≤ n) (h0 : 0 < n) : w.ownsRow B e 1 (.slice a k cap) k (l.take k) := by
  have hl := h.1
  refine ⟨by rw [List.length_take, hl]; omega, ?_⟩
  rcases h.2 with ⟨he, hn⟩ | ⟨g, c, cur, he, hb, hg, hnc, hcm, hcs, ht⟩
  · omega
  · simp only [Value.slice.injEq] at he
    obtain ⟨rfl, -, rfl⟩ := he
    refine .inr ⟨g, _, cur, rfl, hb, hg, by omega, hcm, hcs, ?_⟩
    rw [← ht]
    simp only [Nat.mul_one, List.take_take]
    congr 1
    omega
theorem own_block {w : World} {B e n cap : Nat} {a : Option Addr} {l : List Value} {s : Nat} (h : w.ownsRow B e s (.slice a n cap) n l) (h0 : 0 < n) : ∃ g, a = some ⟨g, 0, none⟩ ∧ B ≤ g ∧ g < w.heap.size ∧ n ≤ cap ∧ cap ≤ maxLen := by
  rcases h.2 with ⟨he, hn⟩ | ⟨g, c, cur, he, hb, hg, hnc, hcm, hcs, ht⟩
  · omega
  · simp only [Value.slice.injEq] at he
    obtain ⟨rfl, -, rfl⟩ := he
    exact ⟨g, rfl, hb, (Array.getElem?_eq_some_iff.1 hg).1, hnc, hcm⟩
end Go.Proofs.YtdkbmkapnapahaaGreatDoor
namespace Go.Proofs.YtdkbmkapnapahaaGreatDoor
open Go.RowKit
set_option linter.unusedVariables false
set_option linter.unusedSimpArgs false
/-- From w on only blocks of S were turned. -/
structure Upd (S : Nat → Prop) (w w' : World) : Prop where
  os : w'.os = w.os
  tape : w'.tape = w.tape
  output : w'.output = w.output
  size : w.heap.size ≤ w'.heap.size
  block : ∀ k, k < w.heap.size → ¬ S k → w'.heap[k]? = w.heap[k]?
section
variable {S S' : Nat → Prop} {w w' a b c : World}
theorem Upd.refl (S : Nat → Prop) (w : World) : Upd S w w := ⟨rfl, rfl, rfl, Nat.le_refl _, fun _ _ _ => rfl⟩
theorem Upd.trans' (h : Upd S a b) (k : Upd S' b c) (hs : ∀ i, i < a.heap.size → S' i → S i) : Upd S a c :=
  ⟨k.os.trans h.os, k.tape.trans h.tape, k.output.trans h.output, Nat.le_trans h.size k.size, fun i hi hn => (k.block i (Nat.lt_of_lt_of_le hi h.size) (fun e => hn (hs i hi e))).trans (h.block i hi hn)⟩
theorem Upd.trans (h : Upd S a b) (k : Upd S b c) : Upd S a c := h.trans' k (fun _ _ e => e)
theorem Upd.mono (h : Upd S a b) (hs : ∀ i, i < a.heap.size → S i → S' i) : Upd S' a b :=
  ⟨h.os, h.tape, h.output, h.size, fun i hi hn => h.block i hi (fun e => hn (hs i hi e))⟩
theorem Upd.below (h : Below w.heap.size w w') : Upd S w w' := ⟨h.os, h.tape, h.output, h.size, fun i hi _ => h.block i hi⟩
theorem Upd.grown {b : Nat} (h : w.grownBy w' (some b)) (hb : S b) : Upd S w w' := ⟨h.os, h.tape, h.output, h.size, fun i hi hn => h.block i hi (by intro e; injection e with e; subst e; exact hn hb)⟩
theorem Upd.grown0 {row : Option Nat} (h : w.grownBy w' row) (hb : ∀ b, row = some b → b < w.heap.size → S b) : Upd S w w' := ⟨h.os, h.tape, h.output, h.size, fun i hi hn => h.block i hi (fun e => hn (hb i e.symm hi))⟩
theorem Upd.set (w : World) {b i : Nat} (v : Value) (hb : S b) : Upd S w (w.setCell ⟨b, i, none⟩ v) :=
  ⟨rfl, rfl, rfl, by simp [World.setCell], fun k hk hn => Below.heap_setCell _ _ _ _ (by intro e; subst e; exact hn hb)⟩
theorem Upd.setRow (w : World) {b : Nat} (C : Array Value) (hb : S b) : Upd S w (w.setRow b C) :=
  ⟨rfl, rfl, rfl, by simp [World.setRow], fun k hk hn => setRow_other w b k C (by intro e; subst e; exact hn hb)⟩
theorem Upd.drewN (w : World) (n : Nat) : Upd S w (w.drewN n) := ⟨rfl, rfl, rfl, Nat.le_refl _, fun _ _ _ => rfl⟩
theorem Upd.drew (w : World) : Upd S w w.drew := ⟨rfl, rfl, rfl, Nat.le_refl _, fun _ _ _ => rfl⟩
theorem Upd.alloc (w : World) (o : Obj) : Upd S w (w.alloc o) := Upd.below ((Below.refl _ _).alloc (Nat.le_refl _) o)
theorem Upd.cell (h : Upd S w w') {b o : Nat} (hb : b < w.heap.size) (hn : ¬ S b) : w'.cell? ⟨b, o, none⟩ = w.cell? ⟨b, o, none⟩ := by
  have := h.block b hb hn
  simp only [World.cell?, this]
theorem Upd.frozen (h : Upd S w w') {b o : Nat} (hb : b < w.heap.size) (hn : ¬ S b) : w'.frozen? ⟨b, o, none⟩ = w.frozen? ⟨b, o, none⟩ := by
  have := h.block b hb hn
  simp only [World.frozen?, this]
theorem Upd.toBelow {B : Nat} (h : Upd S w w') (hB : B ≤ w.heap.size) (hs : ∀ k, k < B → ¬ S k) : Below B w w' :=
  ⟨h.os, h.tape, h.output, h.size, fun k hk => h.block k (by omega) (hs k hk)⟩
theorem Upd.owns {B e s n : Nat} {v : Value} {l : List Value} (h : Upd S w w') (ho : w.ownsRow B e s v n l) (hn : ∀ g, v.ownBlock = some g → ¬ S g) : w'.ownsRow B e s v n l := by
  refine ⟨ho.1, ?_⟩
  rcases ho.2 with h0 | ⟨g, c, cur, he, hb, hg, hr⟩
  · exact .inl h0
  · exact .inr ⟨g, c, cur, he, hb, (h.block g (Array.getElem?_eq_some_iff.1 hg).1 (hn g (by rw [he]; rfl))).trans hg, hr⟩
end
/-- a store into a cell that is there -/
theorem set_same {w : World} {b i : Nat} {x y : Value} (h : w.cell? ⟨b, i, none⟩ = some y) : (w.setCell ⟨b, i, none⟩ x).cell? ⟨b, i, none⟩ = some x := by
  simp [go_sem, h]
theorem set_off {w : World} {b c i j : Nat} {x v : Value} (hj : j ≠ i) (h : w.cell? ⟨b, j, none⟩ = some v) : (w.setCell ⟨c, i, none⟩ x).cell? ⟨b, j, none⟩ = some v := by
  rw [World.cell?_setCell_other _ _ _ _ (by intro e; exact hj (by simpa using (congrArg Addr.off e).symm))]; exact h
theorem set_blk {w : World} {b c i j : Nat} {x v : Value} (hj : b ≠ c) (h : w.cell? ⟨b, j, none⟩ = some v) : (w.setCell ⟨c, i, none⟩ x).cell? ⟨b, j, none⟩ = some v := by
  rw [World.cell?_setCell_other _ _ _ _ (by intro e; exact hj (by simpa using (congrArg Addr.block e).symm))]; exact h
theorem grown_cell {w w' : World} {row : Option Nat} (h : w.grownBy w' row) {b o : Nat} (hlt : b < w.heap.size) (hne : some b ≠ row) : w'.cell? ⟨b, o, none⟩ = w.cell? ⟨b, o, none⟩ := by
  have := h.block b hlt hne
  simp only [World.cell?, this]
theorem grown_frozen {w w' : World} {row : Option Nat} (h : w.grownBy w' row) {b o : Nat} (hlt : b < w.heap.size) (hne : some b ≠ row) : w'.frozen? ⟨b, o, none⟩ = w.frozen? ⟨b, o, none⟩ := by
  have := h.block b hlt hne
  simp only [World.frozen?, this]
theorem below_drewN {B : Nat} {a w : World} (h : Below B a w) (n : Nat) : Below B a (w.drewN n) := ⟨h.os, h.tape, h.output, h.size, h.block⟩
end Go.Proofs.YtdkbmkapnapahaaGreatDoor
namespace Go.Proofs.YtdkbmkapnapahaaGreatDoor.ProcLaw
set_option linter.unusedSimpArgs false
open Go.RowKit
set_option linter.unusedVariables false

def ForkPost (t : T) (b : Nat) (p : Int) (w : World) (e : Ending) (w' : World) : Prop :=
  ∃ r en t', e = .returned (.tuple #[.int .i64 r, .int .i64 en]) ∧ Upd (fun k => k = b) w w' ∧ TabAt w' b t' ∧
    ((en ≠ 0 ∧ t' = t ∧ (livR t p ≠ 0 ∨ ∀ k, 1 ≤ k → k ≤ 16 → (t k).st ≠ 0)) ∨ (en = 0 ∧ ∃ k q : Nat, r = k ∧ 1 ≤ k ∧ k ≤ 16 ∧ (t k).st = 0 ∧ (∀ j, 1 ≤ j → j < k → (t j).st ≠ 0) ∧ p = q ∧ alive t q ∧ t' = forked t k q))
set_option maxRecDepth 100000 in
set_option maxHeartbeats 4000000 in
theorem fork_is {w : World} {b : Nat} {t : T} (p : Int) (h : TabAt w b t) : Calls Tryz.prog 181 #[.pointer (some ⟨b, 0, none⟩), .int .i64 p] w (ForkPost t b p w) := by
  have HL := Lib.hid (living_is p h)
  have HT := Lib.hid h
  by_cases hl : livR t p = 0
  · obtain ⟨q, rfl, ha⟩ := livR_zero hl
    have HA := Lib.hid ha
    have HZ := Lib.hid hl
    obtain ⟨q1, q2, q3⟩ := ha
    have hq : (q : Int) < 17 := by omega
    have cg := h.gr q (by omega)
    clear hl q3 h
    go_enter Tryz.func181, Tryz.ntmps181
    go_wp2_with fail
    refine HL.out.mono ?_
    rintro e w1 ⟨rfl, rfl⟩
    rw [HZ.out]
    go_wp2
    go_loop [7] (fun i => ∃ k : Nat, 1 ≤ k ∧ k ≤ 17 ∧ i = .int .i64 k ∧ Hid (∀ j, 1 ≤ j → j < k → (t j).st ≠ 0)) (fun i => 17 - (intOf i).toNat)
    case atStart => exact ⟨1, by omega, by omega, rfl, fun j h1 h2 => absurd h2 (by omega)⟩
    case round =>
      obtain ⟨k, k1, k2, rfl, HK⟩ := hrel
      by_cases hlt : k ≤ 16
      · have hk : (k : Int) < 17 := by omega
        have c0 := HT.out.st k (by omega)
        by_cases hs : (t k).st = 0
        · have HS := Lib.hid hs
          rw [hs] at c0
          have c1 := HT.out.par k (by omega)
          have c2 := HT.out.gr k (by omega)
          have c3 := HT.out.code k (by omega)
          have f0 := HT.out.fz (k * 4)
          have f1 := HT.out.fz (k * 4 + 1)
          have f2 := HT.out.fz (k * 4 + 2)
          have f3 := HT.out.fz (k * 4 + 3)
          have HKK := Lib.hid (And.intro k1 hlt)
          clear hs
          go_wp2_with fail
          go_region
          all_goals
            go_wp2
            go_ret2
            refine ⟨k, 0, _, rfl, ?_, ?_, .inr ⟨rfl, k, q, rfl, HKK.out.1, HKK.out.2, HS.out, HK.out, rfl, HA.out, rfl⟩⟩
            · repeat (first | exact Upd.refl _ _ | refine Upd.trans ?_ (Upd.drew _) | refine Upd.trans ?_ (Upd.set _ _ rfl))
            · first | exact (HT.out.set4 (by omega) 1 q (t q).gr 0).drew | exact HT.out.drew.set4 (by omega) 1 q (t q).gr 0
        · have hs' : ((t k).st == 0) = false := by simp [hs]
          have HS := Lib.hid hs
          clear hs
          go_wp2
          go_round
          case rel =>
            refine ⟨k + 1, by omega, by omega, by go_num, fun j h1 h2 => ?_⟩
            rcases Nat.lt_succ_iff_lt_or_eq.1 h2 with h | rfl
            · exact HK.out j h1 h
            · exact HS.out
          case measure => simp [intOf]; omega
      · obtain rfl : k = 17 := by omega
        go_wp2
        go_ret2
        exact ⟨0, 6, t, rfl, Upd.refl _ _, HT.out, .inl ⟨by decide, rfl, .inr fun k h1 h2 => HK.out k h1 (by omega)⟩⟩
  · have hl' : (livR t p != 0) = true := by simp [hl]
    have HZ := Lib.hid hl
    clear hl h
    generalize hx : livR t p = x at *
    go_enter Tryz.func181, Tryz.ntmps181
    go_wp2_with fail
    refine HL.out.mono ?_
    rintro e w1 ⟨rfl, rfl⟩
    go_wp2
    go_ret2
    exact ⟨0, x, t, rfl, Upd.refl _ _, HT.out, .inl ⟨HZ.out, rfl, .inl (by rw [hx]; exact HZ.out)⟩⟩
end Go.Proofs.YtdkbmkapnapahaaGreatDoor.ProcLaw
