/- Walks of ringkeep5's own small functions: Within, good. Slices of the call's own: what keeps them. No program here. The two maps of space.Memory, as functions: spaces (number -> a space's map) and a space (page number -> its entry). What a call may turn: the blocks of a set, and none but them; new ones may come. No program here. Slices of bytes: what is known of them, and slices.Clone at bytes. -/
import Derived.Test.YthdpeecahpedeaaGreatDoorProg
import Derived.Test.YthdpeecahpedeaaGreatDoorBase
import Derived.OwnWalk
import Derived.Maps.OwnSet
import Derived.Maps.Views
import Derived.WalkSpells
import Derived.Laws.CopyOwn
import Derived.Laws.CopyRow
namespace Go.Proofs.YthdpeecahpedeaaGreatDoor
set_option linter.unusedSimpArgs false
open Go.RowKit
set_option linter.unusedVariables false

theorem tmod_neg {k n : Int} (hn : 1 ≤ n) (h : k < 0) : k.tmod n = -((-k) % n) := by
  obtain ⟨m, rfl⟩ : ∃ m : Int, k = -m := ⟨-k, by omega⟩
  rw [Int.neg_tmod, Int.neg_neg, Int.tmod_eq_emod_of_nonneg (by omega)]

theorem rest_any (k n : Int) (w : World) (hn : 1 ≤ n) (hn' : n ≤ 4294967296) :
    Calls Tryz.prog 17 #[.int .i64 k, .int .i64 n] w fun e w' => e = .returned (.int .i64 (k % n)) ∧ w = w' := by
  by_cases h0 : 0 ≤ k
  · have h1 : 0 ≤ k % n := Int.emod_nonneg _ (by omega)
    have h2 : k % n < n := Int.emod_lt_of_pos _ (by omega)
    go_enter Tryz.func17, Tryz.ntmps17
    go_wp2
    go_ret
    exact ⟨rfl, rfl⟩
  · have h1 : 0 ≤ (-k) % n := Int.emod_nonneg _ (by omega)
    have h2 : (-k) % n < n := Int.emod_lt_of_pos _ (by omega)
    have h3 := tmod_neg hn (show k < 0 by omega)
    have h4 : k.tmod n ≤ 0 := by omega
    have h5 : -n < k.tmod n := by omega
    have hd := Int.mul_tdiv_add_tmod k n
    have H3 := Lib.hid h3
    clear h3 hd
    by_cases hz : k.tmod n < 0
    · have hr : k.tmod n + n = k % n := by
        have e1 := H3.out
        have e2 : (-k) % n ≠ 0 := by omega
        have : k % n = n - (-k) % n := by
          have hq : -(-k) % n = if n ∣ -k then 0 else (n.natAbs : Int) - (-k) % n := Int.neg_emod
          rw [Int.neg_neg, if_neg (by intro hdv; exact e2 (Int.emod_eq_zero_of_dvd hdv))] at hq
          omega
        omega
      have HR := Lib.hid hr
      clear hr h1 h2 h0
      go_enter Tryz.func17, Tryz.ntmps17
      go_wp2
      go_ret
      exact ⟨ret_int HR.out, rfl⟩
    · have hr : k.tmod n = k % n := by
        have e1 := H3.out
        have e2 : (-k) % n = 0 := by omega
        have e3 : k % n = 0 := by
          have hd : n ∣ -k := Int.dvd_of_emod_eq_zero e2
          exact Int.emod_eq_zero_of_dvd ((Int.dvd_neg).1 hd)
        omega
      have HR := Lib.hid hr
      clear hr h1 h2 h0
      go_enter Tryz.func17, Tryz.ntmps17
      go_wp2
      go_ret
      exact ⟨ret_int HR.out, rfl⟩

theorem within_any (k n : Int) (w : World) (hn : 1 ≤ n) (hn' : n ≤ 4294967296) :
    Calls Tryz.prog 6 #[.int .i64 k, .int .i64 n] w fun e w' => e = .returned (.int .i64 (k % n)) ∧ w = w' := by
  go_enter Tryz.func6, Tryz.ntmps6
  go_wp2_with (go_at_call 17; refine (rest_any _ _ _ hn hn').mono ?_; rintro e w' ⟨rfl, rfl⟩)
  go_ret
  exact ⟨rfl, rfl⟩

end Go.Proofs.YthdpeecahpedeaaGreatDoor
namespace Go.Proofs.YthdpeecahpedeaaGreatDoor
open Go.RowKit
set_option linter.unusedVariables false
set_option linter.unusedSimpArgs false
theorem owns_keep {w w' : World} {B e s n : Nat} {v : Value} {l : List Value} (h : w.ownsRow B e s v n l) (hb : Below w.heap.size w w') : w'.ownsRow B e s v n l :=
  h.kept (row := none) ⟨hb.os, hb.tape, hb.output, hb.size, fun k hk _ => hb.block k hk⟩ (by cases hv : v.ownBlock <;> simp)
theorem own_form {w : World} {B e n : Nat} {v : Value} {l : List Value} {s : Nat} (h : w.ownsRow B e s v n l) : ∃ p cap, v = .slice p n cap := by
  rcases h.2 with ⟨rfl, hn⟩ | ⟨g, cap', cur, rfl, _⟩
  · exact ⟨none, 0, by rw [hn]⟩
  · exact ⟨_, cap', rfl⟩
theorem owns_base {w : World} {B B' e s n : Nat} {v : Value} {l : List Value} (h : w.ownsRow B e s v n l) (hB : B' ≤ B) : w.ownsRow B' e s v n l := by
  refine ⟨h.1, ?_⟩
  rcases h.2 with h | ⟨g, cap, cur, h1, h2, h3⟩
  · exact .inl h
  · exact .inr ⟨g, cap, cur, h1, Nat.le_trans hB h2, h3⟩
/-- a store into another block -/
theorem owns_set {w : World} {B e s n c i : Nat} {v x : Value} {l : List Value} (h : w.ownsRow B e s v n l) (hc : v.ownBlock ≠ some c) : (w.setCell ⟨c, i, none⟩ x).ownsRow B e s v n l := by
  refine h.kept (row := some c) ⟨rfl, rfl, rfl, by simp [World.setCell], fun k hk hne => Below.heap_setCell _ _ _ _ (by intro e; exact hne (by rw [e]))⟩ ?_
  exact .inr hc
theorem far_row {w : World} {B e s n n3 : Nat} {v : Value} {l : List Value} (h : w.ownsRow B e s v n l) (hB : n3 < B) : v.ownBlock ≠ some n3 := fun e => by have := (h.lt n3 e).1; omega
theorem gb {w w' : World} (hb : Below w.heap.size w w') : w.grownBy w' none := ⟨hb.os, hb.tape, hb.output, hb.size, fun k hk _ => hb.block k hk⟩
/-- fewer elements of one's own -/
theorem owns_take {w : World} {B e n cap k : Nat} {a : Option Addr} {l : List Value} (h : w.ownsRow B e 1 (.slice a n cap) n l) (hk : k ≤ n) (h0 : 0 < n) : w.ownsRow B e 1 (.slice a k cap) k (l.take k) := by
  have hl := h.1
  refine ⟨by rw [List.length_take, hl]; omega, ?_⟩
  rcases h.2 with ⟨he, hn⟩ | ⟨g, c, cur, he, hb, hg, hnc, hcm, hcs, ht⟩
  · omega
  · simp only [Value.slice.injEq] at he
    obtain ⟨rfl, -, rfl⟩ := he
    refine .inr ⟨g, _, cur, rfl, hb, hg, by omega, hcm, hcs, ?_⟩
    rw [← ht]
    simp only [Nat.mul_one, List.take_take]
    congr 1
    omega
theorem own_block {w : World} {B e n cap : Nat} {a : Option Addr} {l : List Value} {s : Nat} (h : w.ownsRow B e s (.slice a n cap) n l) (h0 : 0 < n) : ∃ g, a = some ⟨g, 0, none⟩ ∧ B ≤ g ∧ g < w.heap.size ∧ n ≤ cap ∧ cap ≤ maxLen := by
  rcases h.2 with ⟨he, hn⟩ | ⟨g, c, cur, he, hb, hg, hnc, hcm, hcs, ht⟩
  · omega
  · simp only [Value.slice.injEq] at he
    obtain ⟨rfl, -, rfl⟩ := he
    exact ⟨g, rfl, hb, (Array.getElem?_eq_some_iff.1 hg).1, hnc, hcm⟩
end Go.Proofs.YthdpeecahpedeaaGreatDoor
namespace Go.Proofs.YthdpeecahpedeaaGreatDoor
open Go.RowKit Go.Maps
set_option linter.unusedVariables false
set_option linter.unusedSimpArgs false
/-- An entry of a space: its page's block, and its rights. -/
def encE : Option (Nat × Int) → Value
  | none => .agg #[.pointer none, .int .i64 0]
  | some (g, r) => .agg #[.pointer (some ⟨g, 0, none⟩), .int .i64 r]
def encO : Option Nat → Value
  | none => .map none
  | some b => .map (some b)
def datE : Option (Nat × Int) → DataW Unit
  | none => .nil
  | some (g, r) => .agg [.lit (.int .i64 g), .lit (.int .i64 r)]
def datO : Option Nat → DataW Unit
  | none => .nil
  | some b => .lit (.int .i64 b)
open Classical in
noncomputable def redE (v : Value) : Option (DataW Unit × List MemPlace) := if h : ∃ x, v = encE x then some (datE h.choose, []) else none
open Classical in
noncomputable def redO (v : Value) : Option (DataW Unit × List MemPlace) := if h : ∃ x, v = encO x then some (datO h.choose, []) else none
theorem encE_inj {x y : Option (Nat × Int)} (h : encE x = encE y) : x = y := by
  cases x with
  | none => cases y with
    | none => rfl
    | some y => obtain ⟨g, r⟩ := y; simp [encE] at h
  | some x => obtain ⟨g, r⟩ := x; cases y with
    | none => simp [encE] at h
    | some y => obtain ⟨g', r'⟩ := y; simp [encE] at h; obtain ⟨h1, h2⟩ := h; rw [h1, h2]
theorem encO_inj {x y : Option Nat} (h : encO x = encO y) : x = y := by
  cases x <;> cases y <;> simp [encO] at h ⊢
  exact h
theorem datE_inj {x y : Option (Nat × Int)} (h : datE x = datE y) : x = y := by
  cases x with
  | none => cases y with
    | none => rfl
    | some y => obtain ⟨g, r⟩ := y; simp [datE] at h
  | some x => obtain ⟨g, r⟩ := x; cases y with
    | none => simp [datE] at h
    | some y => obtain ⟨g', r'⟩ := y; simp [datE] at h; obtain ⟨h1, h2⟩ := h; rw [h2]; congr; omega
theorem datO_inj {x y : Option Nat} (h : datO x = datO y) : x = y := by
  cases x <;> cases y <;> simp [datO] at h ⊢
  omega
theorem redE_enc (x : Option (Nat × Int)) : redE (encE x) = some (datE x, []) := by
  unfold redE
  have h : ∃ y, encE x = encE y := ⟨x, rfl⟩
  rw [dif_pos h, ← encE_inj h.choose_spec]
theorem redO_enc (x : Option Nat) : redO (encO x) = some (datO x, []) := by
  unfold redO
  have h : ∃ y, encO x = encO y := ⟨x, rfl⟩
  rw [dif_pos h, ← encO_inj h.choose_spec]
theorem redE_inv {v : Value} {x : Option (Nat × Int)} {ps : List MemPlace} (h : redE v = some (datE x, ps)) : v = encE x := by
  unfold redE at h
  split at h
  · rename_i h'
    simp only [Option.some.injEq, Prod.mk.injEq] at h
    rw [← datE_inj h.1]; exact h'.choose_spec
  · cases h
theorem redO_inv {v : Value} {x : Option Nat} {ps : List MemPlace} (h : redO v = some (datO x, ps)) : v = encO x := by
  unfold redO at h
  split at h
  · rename_i h'
    simp only [Option.some.injEq, Prod.mk.injEq] at h
    rw [← datO_inj h.1]; exact h'.choose_spec
  · cases h
theorem keyed3 : Keyed Tryz.prog 3 := int_keyed Tryz.underlying3
/-- Block b is a space's map: f says what lies at each key. -/
def IMap (w : World) (b n : Nat) (f : Int → Option (Nat × Int)) : Prop :=
  ∃ D : DataW Unit, w.ownsMap Tryz.prog 3 redE b n D ∧ IsMap D ∧ ∀ k, D.atKey (.int .i64 k) .nil = datE (f k) ∧ Maps.has D (.int .i64 k) = (f k).isSome
def OMap (w : World) (b n : Nat) (f : Int → Option Nat) : Prop :=
  ∃ D : DataW Unit, w.ownsMap Tryz.prog 3 redO b n D ∧ IsMap D ∧ ∀ k, D.atKey (.int .i64 k) .nil = datO (f k)
theorem zero46 (w : World) : (zeroValue 264).run Tryz.prog w = .ok (encE none) w := by kernel_rfl
theorem zero42 (w : World) : (zeroValue 176).run Tryz.prog w = .ok (encO none) w := by kernel_rfl
theorem IMap.look {w : World} {b n : Nat} {f : Int → Option (Nat × Int)} (h : IMap w b n f) {k : Int} (hk : (Lit.int .i64 k).wf = true) : (Instr.lookup 176 (.map (some b)) (.int .i64 k) false).run Tryz.prog w = .ok (encE (f k)) w := by
  obtain ⟨D, hD, hm, hf⟩ := h
  obtain ⟨v, ps, hr, hv⟩ := hD.lookup keyed3 Tryz.underlying176 (zero46 w) (redE_enc none) (keyOf_int_mk Tryz.underlying3 hk)
  rw [show datE none = .nil from rfl, (hf k).1] at hv
  rw [hr, redE_inv hv]
theorem IMap.look_ok {w : World} {b n : Nat} {f : Int → Option (Nat × Int)} (h : IMap w b n f) {k : Int} (hk : (Lit.int .i64 k).wf = true) : (Instr.lookup 176 (.map (some b)) (.int .i64 k) true).run Tryz.prog w = .ok (.tuple #[encE (f k), .bool (f k).isSome]) w := by
  obtain ⟨D, hD, hm, hf⟩ := h
  obtain ⟨v, ps, hr, hv⟩ := hD.look_ok keyed3 Tryz.underlying176 (zero46 w) (redE_enc none) (keyOf_int_mk Tryz.underlying3 hk)
  rw [show datE none = .nil from rfl, (hf k).1] at hv
  rw [hr, redE_inv hv, (hf k).2]
theorem OMap.look {w : World} {b n : Nat} {f : Int → Option Nat} (h : OMap w b n f) {k : Int} (hk : (Lit.int .i64 k).wf = true) : (Instr.lookup 172 (.map (some b)) (.int .i64 k) false).run Tryz.prog w = .ok (encO (f k)) w := by
  obtain ⟨D, hD, hm, hf⟩ := h
  obtain ⟨v, ps, hr, hv⟩ := hD.lookup keyed3 Tryz.underlying172 (zero42 w) (redO_enc none) (keyOf_int_mk Tryz.underlying3 hk)
  rw [show datO none = .nil from rfl, hf k] at hv
  rw [hr, redO_inv hv]
theorem ikey (k : Int) : WideAt.IsKeyLit (Lit.int .i64 k) := trivial
theorem lit_ne {k k' : Int} (h : k' ≠ k) : (Lit.int .i64 k' : Lit) ≠ Lit.int .i64 k := fun e => h (by injection e)
theorem IMap.put {w : World} {b n : Nat} {f : Int → Option (Nat × Int)} (h : IMap w b n f) {k : Int} (hk : (Lit.int .i64 k).wf = true) (hn : n < maxLen) (g : Nat) (r : Int) : ∃ w', (Instr.mapUpdate 176 (.map (some b)) (.int .i64 k) (encE (some (g, r)))).run Tryz.prog w = .ok () w' ∧ IMap w' b (n + 1) (fun j => if j = k then some (g, r) else f j) ∧ w.grownBy w' (some b) := by
  obtain ⟨D, hD, hm, hf⟩ := h
  obtain ⟨w', hr, ho, hg⟩ := hD.update keyed3 Tryz.underlying176 hn (keyOf_int_mk Tryz.underlying3 hk) (redE_enc (some (g, r)))
  refine ⟨w', hr, ⟨_, ho, hm.put _ _, fun j => ?_⟩, hg⟩
  by_cases hj : j = k
  · subst hj
    exact ⟨(atKey_put_same hm (ikey _) _ _).trans (by simp), (has_put_same hm (ikey _) _).trans (by simp)⟩
  · dsimp only
    rw [if_neg hj]
    exact ⟨(atKey_put_other (lit_ne hj) _ _).trans (hf j).1, (has_put_other (lit_ne hj) _).trans (hf j).2⟩
theorem OMap.put {w : World} {b n : Nat} {f : Int → Option Nat} (h : OMap w b n f) {k : Int} (hk : (Lit.int .i64 k).wf = true) (hn : n < maxLen) (g : Nat) : ∃ w', (Instr.mapUpdate 172 (.map (some b)) (.int .i64 k) (encO (some g))).run Tryz.prog w = .ok () w' ∧ OMap w' b (n + 1) (fun j => if j = k then some g else f j) ∧ w.grownBy w' (some b) := by
  obtain ⟨D, hD, hm, hf⟩ := h
  obtain ⟨w', hr, ho, hg⟩ := hD.update keyed3 Tryz.underlying172 hn (keyOf_int_mk Tryz.underlying3 hk) (redO_enc (some g))
  refine ⟨w', hr, ⟨_, ho, hm.put _ _, fun j => ?_⟩, hg⟩
  by_cases hj : j = k
  · subst hj
    exact (atKey_put_same hm (ikey _) _ _).trans (by simp)
  · dsimp only
    rw [if_neg hj]
    exact (atKey_put_other (lit_ne hj) _ _).trans (hf j)
theorem IMap.kept {w w' : World} {b n : Nat} {f : Int → Option (Nat × Int)} {row : Option Nat} (h : IMap w b n f) (hg : w.grownBy w' row) (hne : some b ≠ row) : IMap w' b n f := by
  obtain ⟨D, hD, hm, hf⟩ := h
  exact ⟨D, hD.kept hg hne, hm, hf⟩
theorem OMap.kept {w w' : World} {b n : Nat} {f : Int → Option Nat} {row : Option Nat} (h : OMap w b n f) (hg : w.grownBy w' row) (hne : some b ≠ row) : OMap w' b n f := by
  obtain ⟨D, hD, hm, hf⟩ := h
  exact ⟨D, hD.kept hg hne, hm, hf⟩
theorem IMap.made (w : World) : IMap (w.alloc (.map #[] 0)) w.heap.size 0 (fun _ => none) :=
  ⟨_, World.ownsMap_made w _ _ _, isMap_empty, fun k => ⟨rfl, rfl⟩⟩
theorem OMap.made (w : World) : OMap (w.alloc (.map #[] 0)) w.heap.size 0 (fun _ => none) :=
  ⟨_, World.ownsMap_made w _ _ _, isMap_empty, fun k => rfl⟩
end Go.Proofs.YthdpeecahpedeaaGreatDoor
namespace Go.Proofs.YthdpeecahpedeaaGreatDoor
open Go.RowKit
set_option linter.unusedVariables false
set_option linter.unusedSimpArgs false
/-- From w on only blocks of S were turned. -/
structure Upd (S : Nat → Prop) (w w' : World) : Prop where
  os : w'.os = w.os
  tape : w'.tape = w.tape
  output : w'.output = w.output
  size : w.heap.size ≤ w'.heap.size
  block : ∀ k, k < w.heap.size → ¬ S k → w'.heap[k]? = w.heap[k]?
section
variable {S S' : Nat → Prop} {w w' a b c : World}
theorem Upd.refl (S : Nat → Prop) (w : World) : Upd S w w := ⟨rfl, rfl, rfl, Nat.le_refl _, fun _ _ _ => rfl⟩
theorem Upd.trans' (h : Upd S a b) (k : Upd S' b c) (hs : ∀ i, i < a.heap.size → S' i → S i) : Upd S a c :=
  ⟨k.os.trans h.os, k.tape.trans h.tape, k.output.trans h.output, Nat.le_trans h.size k.size, fun i hi hn => (k.block i (Nat.lt_of_lt_of_le hi h.size) (fun e => hn (hs i hi e))).trans (h.block i hi hn)⟩
theorem Upd.trans (h : Upd S a b) (k : Upd S b c) : Upd S a c := h.trans' k (fun _ _ e => e)
theorem Upd.mono (h : Upd S a b) (hs : ∀ i, i < a.heap.size → S i → S' i) : Upd S' a b :=
  ⟨h.os, h.tape, h.output, h.size, fun i hi hn => h.block i hi (fun e => hn (hs i hi e))⟩
theorem Upd.below (h : Below w.heap.size w w') : Upd S w w' := ⟨h.os, h.tape, h.output, h.size, fun i hi _ => h.block i hi⟩
theorem Upd.grown {b : Nat} (h : w.grownBy w' (some b)) (hb : S b) : Upd S w w' := ⟨h.os, h.tape, h.output, h.size, fun i hi hn => h.block i hi (by intro e; injection e with e; subst e; exact hn hb)⟩
theorem Upd.grown0 {row : Option Nat} (h : w.grownBy w' row) (hb : ∀ b, row = some b → b < w.heap.size → S b) : Upd S w w' := ⟨h.os, h.tape, h.output, h.size, fun i hi hn => h.block i hi (fun e => hn (hb i e.symm hi))⟩
theorem Upd.set (w : World) {b i : Nat} (v : Value) (hb : S b) : Upd S w (w.setCell ⟨b, i, none⟩ v) :=
  ⟨rfl, rfl, rfl, by simp [World.setCell], fun k hk hn => Below.heap_setCell _ _ _ _ (by intro e; subst e; exact hn hb)⟩
theorem Upd.setRow (w : World) {b : Nat} (C : Array Value) (hb : S b) : Upd S w (w.setRow b C) :=
  ⟨rfl, rfl, rfl, by simp [World.setRow], fun k hk hn => setRow_other w b k C (by intro e; subst e; exact hn hb)⟩
theorem Upd.drewN (w : World) (n : Nat) : Upd S w (w.drewN n) := ⟨rfl, rfl, rfl, Nat.le_refl _, fun _ _ _ => rfl⟩
theorem Upd.drew (w : World) : Upd S w w.drew := ⟨rfl, rfl, rfl, Nat.le_refl _, fun _ _ _ => rfl⟩
theorem Upd.alloc (w : World) (o : Obj) : Upd S w (w.alloc o) := Upd.below ((Below.refl _ _).alloc (Nat.le_refl _) o)
theorem Upd.cell (h : Upd S w w') {b o : Nat} (hb : b < w.heap.size) (hn : ¬ S b) : w'.cell? ⟨b, o, none⟩ = w.cell? ⟨b, o, none⟩ := by
  have := h.block b hb hn
  simp only [World.cell?, this]
theorem Upd.frozen (h : Upd S w w') {b o : Nat} (hb : b < w.heap.size) (hn : ¬ S b) : w'.frozen? ⟨b, o, none⟩ = w.frozen? ⟨b, o, none⟩ := by
  have := h.block b hb hn
  simp only [World.frozen?, this]
theorem Upd.toBelow {B : Nat} (h : Upd S w w') (hB : B ≤ w.heap.size) (hs : ∀ k, k < B → ¬ S k) : Below B w w' :=
  ⟨h.os, h.tape, h.output, h.size, fun k hk => h.block k (by omega) (hs k hk)⟩
theorem Upd.owns {B e s n : Nat} {v : Value} {l : List Value} (h : Upd S w w') (ho : w.ownsRow B e s v n l) (hn : ∀ g, v.ownBlock = some g → ¬ S g) : w'.ownsRow B e s v n l := by
  refine ⟨ho.1, ?_⟩
  rcases ho.2 with h0 | ⟨g, c, cur, he, hb, hg, hr⟩
  · exact .inl h0
  · exact .inr ⟨g, c, cur, he, hb, (h.block g (Array.getElem?_eq_some_iff.1 hg).1 (hn g (by rw [he]; rfl))).trans hg, hr⟩
end
/-- a store into a cell that is there -/
theorem set_same {w : World} {b i : Nat} {x y : Value} (h : w.cell? ⟨b, i, none⟩ = some y) : (w.setCell ⟨b, i, none⟩ x).cell? ⟨b, i, none⟩ = some x := by
  simp [go_sem, h]
theorem set_off {w : World} {b c i j : Nat} {x v : Value} (hj : j ≠ i) (h : w.cell? ⟨b, j, none⟩ = some v) : (w.setCell ⟨c, i, none⟩ x).cell? ⟨b, j, none⟩ = some v := by
  rw [World.cell?_setCell_other _ _ _ _ (by intro e; exact hj (by simpa using (congrArg Addr.off e).symm))]; exact h
theorem set_blk {w : World} {b c i j : Nat} {x v : Value} (hj : b ≠ c) (h : w.cell? ⟨b, j, none⟩ = some v) : (w.setCell ⟨c, i, none⟩ x).cell? ⟨b, j, none⟩ = some v := by
  rw [World.cell?_setCell_other _ _ _ _ (by intro e; exact hj (by simpa using (congrArg Addr.block e).symm))]; exact h
theorem grown_cell {w w' : World} {row : Option Nat} (h : w.grownBy w' row) {b o : Nat} (hlt : b < w.heap.size) (hne : some b ≠ row) : w'.cell? ⟨b, o, none⟩ = w.cell? ⟨b, o, none⟩ := by
  have := h.block b hlt hne
  simp only [World.cell?, this]
theorem grown_frozen {w w' : World} {row : Option Nat} (h : w.grownBy w' row) {b o : Nat} (hlt : b < w.heap.size) (hne : some b ≠ row) : w'.frozen? ⟨b, o, none⟩ = w.frozen? ⟨b, o, none⟩ := by
  have := h.block b hlt hne
  simp only [World.frozen?, this]
theorem below_drewN {B : Nat} {a w : World} (h : Below B a w) (n : Nat) : Below B a (w.drewN n) := ⟨h.os, h.tape, h.output, h.size, h.block⟩
end Go.Proofs.YthdpeecahpedeaaGreatDoor
namespace Go.Proofs.YthdpeecahpedeaaGreatDoor
open Go.RowKit
set_option linter.unusedVariables false
set_option linter.unusedSimpArgs false
theorem info5 : (Tryz.prog.info? 5).map (fun i => (i.zero, i.size, i.bytes)) = some (some (.int .u8 0), 1, 1) := by kernel_rfl
abbrev u8V (x : Int) : Value := .int .u8 x
theorem u8V_one (l : List Int) : ∀ u ∈ l.map u8V, u.oneCell' = true := by
  intro u hu
  obtain ⟨x, _, rfl⟩ := List.mem_map.1 hu
  rfl
theorem cells_u8 {w : World} {b off : Nat} {l : List Int} (h : ∀ i, i < l.length → w.cell? ⟨b, off + i, none⟩ = some (u8V (l.getD i 0))) : ∀ j u, (l.map u8V)[j]? = some u → w.cell? ((⟨b, off, none⟩ : Addr).add j) = some u := by
  intro j u hj
  rw [Addr.add_lit]
  rw [List.getElem?_map] at hj
  have hlt : j < l.length := by
    rcases Nat.lt_or_ge j l.length with h | h
    · exact h
    · rw [List.getElem?_eq_none h] at hj; cases hj
  rw [h j hlt]
  simp [hlt] at hj
  simp [List.getD, hlt, hj]
/-- what Clone leaves: bytes in a block of their own -/
def CloneB (l : List Int) (w : World) (e : Ending) (w' : World) : Prop := ∃ v', e = .returned v' ∧ w'.ownsRow w.heap.size 5 1 v' l.length (l.map u8V) ∧ Below w.heap.size w w'
set_option maxRecDepth 100000 in
set_option maxHeartbeats 400000 in
theorem cloneB_is {w : World} {v : Value} {l : List Int} (h8 : l.length ≤ 140737488355328) (hm : At (Value.int .u8) 0 w v l) : Calls Tryz.prog 103 #[v] w (CloneB l w) := by
  obtain ⟨a, cap, rfl, hl, hcap, hm⟩ := hm
  have q22 : ∀ (w : World) (a : Option Addr) (n c n' c' : Nat), (binOp .eql 28 (.slice a n c) (.slice none n' c')).run Tryz.prog w = .ok (.bool a.isNone) w := fun w a n c n' c' => Lib.run_eql_slice_nil w _ _ a n c n' c' Tryz.underlying28
  cases a with
  | none =>
    have h0 : l = [] := by
      rcases hm with h | ⟨b, off, h, _⟩
      · exact h
      · cases h
    subst h0
    clear hm
    go_enter Tryz.func103, Tryz.ntmps103
    go_wp2
    go_ret
    exact ⟨_, rfl, World.ownsRow_nil _ _ _ _, Below.refl _ _⟩
  | some ad =>
    have hcl : ∀ j u, (l.map u8V)[j]? = some u → w.cell? (ad.add j) = some u := by
      rcases hm with h | ⟨b, off, hab, hlt, hc⟩
      · intro j u hj
        subst h
        simp at hj
      · simp only [Option.some.injEq] at hab
        subst hab
        exact fun j u hj => cells_u8 hc j u hj
    have hlen : (l.map u8V).length = l.length * 1 := by simp
    have hone := u8V_one l
    obtain ⟨n, hn⟩ : ∃ n, n = l.length := ⟨_, rfl⟩
    unfold CloneB
    rw [← hn] at h8 hl hlen ⊢
    generalize l.map u8V = cs at *
    have HC := Lib.hid hcl
    have HO := Lib.hid hone
    have H8 := Lib.hid h8
    clear hm hn hcl hone h8
    obtain ⟨i0, hi, hz0, hz1, hz2⟩ := info_parts info5
    go_enter Tryz.func103, Tryz.ntmps103
    go_wp2_with (at_builtin; go_loud (refine wpList_append_fresh _ rfl (.tmp 5) (.tmp 6) 28 rfl w.heap.size 5 i0 (.int .u8 0) 1 1 Tryz.underlying28 hi hz0 hz1 hz2 rfl (by decide) _ _ _ rfl (World.ownsRow_made w #[] 0 (Nat.le_refl _) (Nat.zero_le _) rfl) ad n _ cs rfl hlen (fun j u h => by have := HC.out j u h; rw [World.cell?_alloc_lt]; exact this; exact World.block_lt_of_cell? w _ this) HO.out (by have := H8.out; unfold maxLen; omega) (by have := H8.out; omega) (by simp) ?_))
    intro v' w1 hown hgrow hfresh
    have hb1 : Below w.heap.size w w1 := ((Below.refl _ _).alloc (Nat.le_refl _) _).grown hgrow (by simp) (fun g hg => by simp [Value.ownBlock] at hg; omega)
    clear hgrow hfresh
    rcases hown.2 with ⟨rfl, hn⟩ | ⟨g, cap', cur, rfl, hb, hg, hnc, hcm, hcs, htake⟩
    · go_wp2
      go_ret
      exact ⟨_, rfl, by simpa using hown, hb1⟩
    · clear hb hg hnc hcm hcs htake
      go_wp2
      go_ret
      exact ⟨_, rfl, by simpa using hown, hb1⟩
end Go.Proofs.YthdpeecahpedeaaGreatDoor
