/- Ranging over a map with int keys, by a code of its elements. The map of who lives, till when it sleeps: as a function; how many there are; how to range over it. TopBusy's state between its calls. No walk here. Who was met on the processors, one behind the other. No walk here. -/
import Derived.Test.YtafflkemnniegaaGreatDoorFsA
import Derived.Maps.RangeWalk
import Derived.Test.YtafflkemnniegaaGreatDoorSlJ
namespace Go.Proofs.YtafflkemnniegaaGreatDoor
open Go.RowKit Go.Maps
set_option linter.unusedVariables false
set_option linter.unusedSimpArgs false
theorem skI (j k : Int) : decide (j = k) = (Lit.int .i64 j).sameKey (.int .i64 k) := by
  simp [Lit.sameKey]
section
variable {ι : Type} {c : MCode ι}
/-- a range over a map is under way: lf: which keys are still to come -/
def CRng (c : MCode ι) (w : World) (b r n : Nat) (f : Int → Option ι) (lf : Int → Bool) (cnt : Nat) : Prop :=
  ∃ (D : DataW Unit) (left : Lit → Bool), w.ranges Tryz.prog 3 c.red b r n D left cnt ∧ IsMap D ∧ (∀ k, D.atKey (.int .i64 k) .nil = c.dat (f k) ∧ Maps.has D (.int .i64 k) = (f k).isSome) ∧ ∀ k, lf k = left (.int .i64 k)
theorem CRng.map {w : World} {b r n cnt : Nat} {f : Int → Option ι} {lf : Int → Bool} (h : CRng c w b r n f lf cnt) : CMap c w b n f := by
  obtain ⟨D, left, h1, h2, h3, _⟩ := h
  exact ⟨D, h1.owns, h2, h3⟩
theorem CRng.left {w : World} {b r n cnt : Nat} {f : Int → Option ι} {lf : Int → Bool} (h : CRng c w b r n f lf cnt) : w.rangeLeft b r = cnt := by
  obtain ⟨D, left, h1, h2, h3, _⟩ := h
  exact h1.left_eq
theorem CRng.rlt {w : World} {b r n cnt : Nat} {f : Int → Option ι} {lf : Int → Bool} (h : CRng c w b r n f lf cnt) : r < w.heap.size := by
  obtain ⟨D, left, h1, h2, h3, _⟩ := h
  exact h1.lt
theorem CRng.kept {w w' : World} {b r n cnt : Nat} {f : Int → Option ι} {lf : Int → Bool} {row : Option Nat} (h : CRng c w b r n f lf cnt) (hg : w.grownBy w' row) (h1 : some b ≠ row) (h2 : some r ≠ row) : CRng c w' b r n f lf cnt := by
  obtain ⟨D, left, q1, q2, q3, q4⟩ := h
  exact ⟨D, left, q1.kept hg h1 h2, q2, q3, q4⟩
variable (w : World) {ops : Array Oper} {rest : List Oper} {o : Oper} {a : Act} {Q : Exit → Act → World → Prop}
/-- 'range m' -/
theorem wpList_range_c (hg : o.guard = none) (m : Operand) (t : TypeId) (hop : o.op = Op.range t m) (e : TypeId) (ht : Tryz.prog.underlying t = some (.map 3 e)) {b n : Nat} {f : Int → Option ι}
    (hm : a.eval m = .map (some b)) (h : CMap c w b n f)
    (hK : ∀ w' cnt, cnt ≤ n → CRng c w' b w.heap.size n f (fun k => (f k).isSome) cnt → w.grownBy w' none → w'.heap.size = w.heap.size + 1 → wpList Tryz.prog ops Q rest (a.put o.dst (.pointer (some ⟨w.heap.size, 0, none⟩))) w') :
    wpList Tryz.prog ops Q (o :: rest) a w := by
  obtain ⟨D, hD, hm', hf⟩ := h
  refine wpList_range_own w hg m t hop 3 e keyed3 ht c.red b n D hm hD ?_
  intro w' h1 h2 h3
  exact hK w' _ hD.size_le ⟨D, _, h1, hm', hf, fun k => (hf k).2.symm⟩ h2 h3
/-- the step -/
theorem wpList_next_c (hg : o.guard = none) (it : Operand) (hop : o.op = Op.next it false) {b r n cnt : Nat} {f : Int → Option ι} {lf : Int → Bool}
    (hit : a.eval it = .pointer (some ⟨r, 0, none⟩)) (h : CRng c w b r n f lf cnt)
    (hDone : (∀ k, lf k = false) → wpList Tryz.prog ops Q rest (a.put o.dst (.tuple #[.bool false])) w)
    (hMore : ∀ (k : Int) (x : ι) (w' : World) (cnt' : Nat), (Lit.int .i64 k).wf = true → lf k = true → f k = some x → CRng c w' b r n f (fun j => lf j && !decide (j = k)) cnt' → cnt' < cnt →
      w.grownBy w' (some r) → w'.heap.size = w.heap.size → (Instr.entry (.pointer (some ⟨r, 0, none⟩))).run Tryz.prog w' = .ok (.tuple #[.int .i64 k, c.enc (some x)]) w' → wpList Tryz.prog ops Q rest (a.put o.dst (.tuple #[.bool true, .int .i64 k, c.enc (some x)])) w') :
    wpList Tryz.prog ops Q (o :: rest) a w := by
  obtain ⟨D, left, q1, q2, q3, q4⟩ := h
  refine wpList_next_ranges w hg it hop 3 keyed3 c.red (Value.int .i64) c.enc (fun key kl hk => ?_) (fun v y hv => c.red_some hv) b r n D left cnt hit q1 (fun _ hl => hDone fun k => by rw [q4, hl]) ?_
  · obtain ⟨x, rfl, _⟩ := Maps.keyOf_int_inv Tryz.underlying3 hk
    exact ⟨x, rfl⟩
  · intro k ox kl y w' cnt' hkey hlk hR hat hrg hlt hgr hsz hen
    obtain ⟨k', ek, rfl, hwf⟩ := Maps.keyOf_int_inv Tryz.underlying3 hkey
    injection ek with _ ek
    subst ek
    have hy : y.1 = c.dat ox := by
      have hR' := Option.some.inj ((c.red_enc ox).symm.trans hR)
      exact congrArg Prod.fst hR'.symm
    have hfk : f k = ox := c.di _ _ (by rw [← (q3 k).1, hat .nil, hy])
    have hhas : Maps.has D (.int .i64 k) = true := by
      rcases e : Maps.has D (.int .i64 k) with _ | _
      · exfalso
        have e1 := (atKey_of_not_has e .nil).symm.trans (hat .nil)
        have e2 := (atKey_of_not_has e (.lit (.bool true))).symm.trans (hat (.lit (.bool true)))
        exact absurd (e1.trans e2.symm) (by intro q; cases q)
      · rfl
    rw [(q3 k).2, hfk] at hhas
    obtain ⟨x, rfl⟩ := Option.isSome_iff_exists.1 hhas
    refine hMore k x w' cnt' hwf (by rw [q4]; exact hlk) hfk ⟨D, _, hrg, q2, q3, fun j => ?_⟩ hlt hgr hsz hen
    have e0 : decide (j = k) = (Lit.int .i64 j).sameKey (.int .i64 k) := skI j k
    show (lf j && !decide (j = k)) = _
    rw [e0, q4 j]
end
end Go.Proofs.YtafflkemnniegaaGreatDoor
namespace Go.Proofs.YtafflkemnniegaaGreatDoor
open Go.RowKit Go.Maps
set_option linter.unusedVariables false
set_option linter.unusedSimpArgs false
/-- as integers -/
def uF (U : Nat → Option Nat) : Int → Option Int := fun k => if 0 ≤ k then (U k.toNat).map (fun n => (n : Int)) else none
theorem uF_nat (U : Nat → Option Nat) (p : Nat) : uF U (p : Int) = (U p).map (fun n => (n : Int)) := by
  unfold uF
  rw [if_pos (by omega)]
  rfl
theorem uF_put (U : Nat → Option Nat) (p n : Nat) : (fun j : Int => if j = (p : Int) then some (n : Int) else uF U j) = uF (fup U p (some n)) := by
  funext j
  by_cases e : j = (p : Int)
  · subst e
    rw [if_pos rfl, uF_nat, fup_same]
    rfl
  · rw [if_neg e]
    unfold uF
    by_cases h : 0 ≤ j
    · rw [if_pos h, if_pos h, fup_off _ _ (by omega)]
    · rw [if_neg h, if_neg h]
theorem uF_del (U : Nat → Option Nat) (p : Nat) : (fun j : Int => if j = (p : Int) then none else uF U j) = uF (fup U p none) := by
  funext j
  by_cases e : j = (p : Int)
  · subst e
    rw [if_pos rfl, uF_nat, fup_same]
    rfl
  · rw [if_neg e]
    unfold uF
    by_cases h : 0 ≤ j
    · rw [if_pos h, if_pos h, fup_off _ _ (by omega)]
    · rw [if_neg h, if_neg h]
def litO (o : Option Int) (z : DataW Unit) : DataW Unit := match o with
  | none => z
  | some x => .lit (.int .i64 x)
/-- what such a map reads as -/
def MapIs (D : DataW Unit) (f : Int → Option Int) : Prop := ∀ k, (∀ z, D.atKey (.int .i64 k) z = litO (f k) z) ∧ Maps.has D (.int .i64 k) = (f k).isSome
/-- block b is a map from int to int: f says what lies at each key, sz how many keys there are; n: how many stores were made at most -/
def NMap (w : World) (b n sz : Nat) (f : Int → Option Int) : Prop := ∃ D : DataW Unit, w.ownsMap Tryz.prog 3 (plainElem Tryz.prog 3) b n D ∧ MapIs D f ∧ Maps.size D = sz
section
variable {w w' : World} {b n sz : Nat} {f : Int → Option Int}
theorem NMap.lt (h : NMap w b n sz f) : b < w.heap.size := by
  obtain ⟨D, hD, _⟩ := h
  exact hD.lt
theorem NMap.made (w : World) : NMap (w.alloc (.map #[] 0)) w.heap.size 0 0 (fun _ => none) :=
  ⟨_, World.ownsMap_made w _ _ _, fun k => ⟨fun z => rfl, rfl⟩, rfl⟩
theorem NMap.kept {row : Option Nat} (h : NMap w b n sz f) (hg : w.grownBy w' row) (hne : some b ≠ row) : NMap w' b n sz f := by
  obtain ⟨D, hD, hf⟩ := h
  exact ⟨D, hD.kept hg hne, hf⟩
theorem NMap.upd {S : Nat → Prop} (h : NMap w b n sz f) (hu : Upd S w w') (hn : ¬ S b) : NMap w' b n sz f := by
  obtain ⟨D, hD, hf⟩ := h
  obtain ⟨es, ck, hb, hrest⟩ := hD
  exact ⟨D, ⟨es, ck, (hu.block b (Array.getElem?_eq_some_iff.1 hb).1 hn).trans hb, hrest⟩, hf⟩
theorem NMap.keep (h : NMap w b n sz f) (hb : Below w.heap.size w w') : NMap w' b n sz f := h.upd (S := fun _ => False) (Upd.below hb) (fun e => e)
theorem zero3 (w : World) : (zeroValue 3).run Tryz.prog w = .ok (.int .i64 0) w := by kernel_rfl
theorem NMap.look_ok (h : NMap w b n sz f) {T : TypeId} (ht : Tryz.prog.underlying T = some (.map 3 3)) {k : Int} (hk : (Lit.int .i64 k).wf = true) : (Instr.lookup T (.map (some b)) (.int .i64 k) true).run Tryz.prog w = .ok (.tuple #[.int .i64 ((f k).getD 0), .bool (f k).isSome]) w := by
  obtain ⟨D, hD, hf, -⟩ := h
  obtain ⟨v, ps, hr, hv⟩ := hD.look_ok keyed3 ht (zero3 w) (plainElem_int Tryz.underlying3 (by decide)) (keyOf_int_mk Tryz.underlying3 hk)
  obtain ⟨c, rfl, hc, -⟩ := plainElem_int_inv Tryz.underlying3 hv
  rw [hr, (hf k).2]
  have hc := congrArg Prod.fst hc
  rw [(hf k).1] at hc
  have hc : litO (f k) (.lit (.int .i64 0)) = .lit (.int .i64 c) := hc
  have hcc : c = (f k).getD 0 := by
    cases e : f k with
    | none =>
      rw [e] at hc
      have hc : (DataW.lit (.int .i64 0) : DataW Unit) = .lit (.int .i64 c) := hc
      exact ((Lit.int.inj (DataW.lit.inj hc)).2).symm
    | some x =>
      rw [e] at hc
      have hc : (DataW.lit (.int .i64 x) : DataW Unit) = .lit (.int .i64 c) := hc
      exact ((Lit.int.inj (DataW.lit.inj hc)).2).symm
  rw [hcc]
theorem NMap.put (h : NMap w b n sz f) {T : TypeId} (ht : Tryz.prog.underlying T = some (.map 3 3)) {k x : Int} (hk : (Lit.int .i64 k).wf = true) (hx : (Lit.int .i64 x).wf = true) (hn : n < maxLen) : ∃ w', (Instr.mapUpdate T (.map (some b)) (.int .i64 k) (.int .i64 x)).run Tryz.prog w = .ok () w' ∧ NMap w' b (n + 1) (if (f k).isSome then sz else sz + 1) (fun j => if j = k then some x else f j) ∧ w.grownBy w' (some b) := by
  obtain ⟨D, hD, hf, hs⟩ := h
  have htd := hD.tidy keyed3
  obtain ⟨w', hr, ho, hg⟩ := hD.update keyed3 ht hn (keyOf_int_mk Tryz.underlying3 hk) (plainElem_int Tryz.underlying3 hx)
  refine ⟨w', hr, ⟨_, ho, fun j => ?_, ?_⟩, hg⟩
  · by_cases hj : j = k
    · subst hj
      exact ⟨fun z => (atKey_put_same htd.isMap (ikey _) _ _).trans (by show _ = litO (if j = j then some x else f j) z; rw [if_pos rfl]; rfl), (has_put_same htd.isMap (ikey _) _).trans (by show _ = (if j = j then some x else f j).isSome; rw [if_pos rfl]; rfl)⟩
    · dsimp only
      rw [if_neg hj]
      exact ⟨fun z => (atKey_put_other (lit_ne hj) _ _).trans ((hf j).1 z), (has_put_other (lit_ne hj) _).trans (hf j).2⟩
  · rw [size_put htd, (hf k).2, hs]
theorem NMap.del (h : NMap w b n sz f) {T : TypeId} (ht : Tryz.prog.underlying T = some (.map 3 3)) {k : Int} (hk : (Lit.int .i64 k).wf = true) (hf : (f k).isSome = true) (ty : TypeId) : ∃ w', (Builtin.delete_ #[T, 3] ty #[.map (some b), .int .i64 k]).run Tryz.prog w = .ok (.tuple #[]) w' ∧ NMap w' b n (sz - 1) (fun j => if j = k then none else f j) ∧ w.grownBy w' (some b) := by
  obtain ⟨D, hD, hm, hs⟩ := h
  have htd := hD.tidy keyed3
  obtain ⟨w', hr, ho, hg⟩ := hD.drop keyed3 ht (keyOf_int_mk Tryz.underlying3 hk) ty
  refine ⟨w', hr, ⟨_, ho, fun j => ?_, ?_⟩, hg.grown⟩
  · by_cases e : j = k
    · subst e
      exact ⟨fun z => (atKey_del_same _).trans (by show _ = litO (if j = j then none else f j) z; rw [if_pos rfl]; rfl), has_del_same.trans (by show _ = (if j = j then none else f j).isSome; rw [if_pos rfl]; rfl)⟩
    · dsimp only
      rw [if_neg e]
      exact ⟨fun z => (atKey_del_other (lit_ne e) _).trans ((hm j).1 z), (has_del_other (lit_ne e)).trans (hm j).2⟩
  · have := size_del htd (k := .int .i64 k)
    rw [(hm k).2, hf, if_pos rfl, hs] at this
    omega
theorem NMap.len (h : NMap w b n sz f) {T : TypeId} (ht : Tryz.prog.underlying T = some (.map 3 3)) (ty : TypeId) : (Builtin.len_ #[T] ty #[.map (some b)]).run Tryz.prog w = .ok (.int .i64 sz) w := by
  obtain ⟨D, hD, hm, hs⟩ := h
  rw [← hs]
  exact hD.len ht ty
end
/-- a range over such a map is under way: lf: which keys are still to come -/
def NRng (w : World) (b r n : Nat) (f : Int → Option Int) (lf : Int → Bool) (cnt : Nat) : Prop :=
  ∃ (D : DataW Unit) (left : Lit → Bool), w.ranges Tryz.prog 3 (plainElem Tryz.prog 3) b r n D left cnt ∧ MapIs D f ∧ ∀ k, lf k = left (.int .i64 k)
theorem NRng.left {w : World} {b r n cnt : Nat} {f : Int → Option Int} {lf : Int → Bool} (h : NRng w b r n f lf cnt) : w.rangeLeft b r = cnt := by
  obtain ⟨D, left, h1, h2, _⟩ := h
  exact h1.left_eq
theorem NRng.rlt {w : World} {b r n cnt : Nat} {f : Int → Option Int} {lf : Int → Bool} (h : NRng w b r n f lf cnt) : r < w.heap.size := by
  obtain ⟨D, left, h1, h2, _⟩ := h
  exact h1.lt
section
variable (w : World) {ops : Array Oper} {rest : List Oper} {o : Oper} {a : Act} {Q : Exit → Act → World → Prop}
/-- 'range m' -/
theorem wpList_range_n (hg : o.guard = none) (m : Operand) (t : TypeId) (hop : o.op = Op.range t m) (ht : Tryz.prog.underlying t = some (.map 3 3)) {b n sz : Nat} {f : Int → Option Int}
    (hm : a.eval m = .map (some b)) (h : NMap w b n sz f)
    (hK : ∀ w' cnt, NRng w' b w.heap.size n f (fun k => (f k).isSome) cnt → w.grownBy w' none → w'.heap.size = w.heap.size + 1 → wpList Tryz.prog ops Q rest (a.put o.dst (.pointer (some ⟨w.heap.size, 0, none⟩))) w') :
    wpList Tryz.prog ops Q (o :: rest) a w := by
  obtain ⟨D, hD, hf, hs⟩ := h
  refine wpList_range_own w hg m t hop 3 3 keyed3 ht (plainElem Tryz.prog 3) b n D hm hD ?_
  intro w' h1 h2 h3
  exact hK w' _ ⟨D, _, h1, hf, fun k => (hf k).2.symm⟩ h2 h3
/-- the step -/
theorem wpList_next_n (hg : o.guard = none) (it : Operand) (hop : o.op = Op.next it false) {b r n cnt : Nat} {f : Int → Option Int} {lf : Int → Bool}
    (hit : a.eval it = .pointer (some ⟨r, 0, none⟩)) (h : NRng w b r n f lf cnt)
    (hDone : (∀ k, lf k = false) → wpList Tryz.prog ops Q rest (a.put o.dst (.tuple #[.bool false])) w)
    (hMore : ∀ (k x : Int) (w' : World) (cnt' : Nat), lf k = true → f k = some x → NRng w' b r n f (fun j => lf j && !decide (j = k)) cnt' → cnt' < cnt →
      w.grownBy w' (some r) → w'.heap.size = w.heap.size → (Instr.entry (.pointer (some ⟨r, 0, none⟩))).run Tryz.prog w' = .ok (.tuple #[.int .i64 k, .int .i64 x]) w' → wpList Tryz.prog ops Q rest (a.put o.dst (.tuple #[.bool true, .int .i64 k, .int .i64 x])) w') :
    wpList Tryz.prog ops Q (o :: rest) a w := by
  obtain ⟨D, left, q1, q2, q4⟩ := h
  refine wpList_next_ranges_ii w hg it hop 3 3 .i64 .i64 keyed3 Tryz.underlying3 Tryz.underlying3 b r n D left cnt hit q1 (fun _ hl => hDone fun k => by rw [q4, hl]) ?_
  intro x c w1 cnt1 hwx hwc hlx hat hrg1 hlt hg1 hs1 hen
  have hfx : f x = some c := by
    cases e : f x with
    | none =>
      exfalso
      have h1 := (hat .nil).symm.trans ((q2 x).1 .nil)
      rw [e] at h1
      have h1 : (DataW.lit (.int .i64 c) : DataW Unit) = .nil := h1
      cases h1
    | some y =>
      have h1 := (hat .nil).symm.trans ((q2 x).1 .nil)
      rw [e] at h1
      have h1 : (DataW.lit (.int .i64 c) : DataW Unit) = .lit (.int .i64 y) := h1
      injection h1 with h1
      injection h1 with _ h1
      rw [h1]
  refine hMore x c w1 cnt1 (by rw [q4]; exact hlx) hfx ⟨D, _, hrg1, q2, fun j => ?_⟩ hlt hg1 hs1 hen
  have e0 : decide (j = x) = (Lit.int .i64 j).sameKey (.int .i64 x) := skI j x
  show (lf j && !decide (j = x)) = _
  rw [e0, q4 j]
end
/-- who is awake, of those that are still to come -/
def awk (U : Nat → Option Nat) (now : Nat) (lf : Int → Bool) : Nat := cntB (fun p => lf p && (rdy U now p == some true)) 17
theorem awk_none {U : Nat → Option Nat} {now : Nat} {lf : Int → Bool} (h : ∀ k, lf k = false) : awk U now lf = 0 := cntB_none fun k _ => by rw [h]; rfl
theorem awk_all (U : Nat → Option Nat) (now : Nat) : awk U now (fun k => (uF U k).isSome) = cntB (fun p => rdy U now p == some true) 17 := cntB_congr fun k _ => by
  dsimp only
  rw [uF_nat]
  unfold rdy
  cases U k <;> rfl
theorem uF_some {U : Nat → Option Nat} {k x : Int} (h : uF U k = some x) : ∃ p n : Nat, k = p ∧ x = n ∧ U p = some n := by
  unfold uF at h
  by_cases h0 : 0 ≤ k
  · rw [if_pos h0] at h
    cases e : U k.toNat with
    | none => rw [e] at h; cases h
    | some n =>
      rw [e] at h
      injection h with h
      exact ⟨k.toNat, n, by omega, h.symm, e⟩
  · rw [if_neg h0] at h; cases h
theorem awk_one {U : Nat → Option Nat} {now p n : Nat} {lf : Int → Bool} (hl : lf p = true) (hp : U p = some n) (h17 : p < 17) : awk U now lf = awk U now (fun j => lf j && !decide (j = (p : Int))) + if n ≤ now then 1 else 0 := by
  by_cases h : n ≤ now
  · rw [if_pos h]
    unfold awk
    refine cntB_one (a := p) (fun k hk => ?_) ?_ ?_ h17
    · have : ¬ (k : Int) = (p : Int) := by omega
      simp [this]
    · unfold rdy
      rw [hl, hp]
      simp [h]
    · simp
  · rw [if_neg h, Nat.add_zero]
    unfold awk
    refine cntB_congr fun k _ => ?_
    by_cases e : k = p
    · subst e
      unfold rdy
      rw [hp]
      simp [h]
    · have : ¬ (k : Int) = (p : Int) := by omega
      simp [this]
end Go.Proofs.YtafflkemnniegaaGreatDoor
namespace Go.Proofs.YtafflkemnniegaaGreatDoor
open Go.RowKit
set_option linter.unusedVariables false
set_option linter.unusedSimpArgs false
theorem Sv.based {w0 w1 w : World} {k : KC} {s : KSt} (h : Sv w1 w k s) (hb : Below w0.heap.size w0 w1) : Sv w0 w k s := ⟨h.kt, fun j hj => Nat.le_trans hb.size (h.lo j hj), hb.trans (h.hb.mono hb.size)⟩
theorem Sv.own {w0 w w' : World} {k : KC} {s : KSt} {b : Nat} (h : Sv w0 w k s) (hu : Upd (fun j => j = b) w w') (h0 : w0.heap.size ≤ b) (ht : s.tag b = 0) : Sv w0 w' k s :=
  ⟨h.kt.upd hu (fun j hj e => hj (by rw [e]; exact ht)), h.lo, h.hb.trans (hu.toBelow h.hb.size (fun j hj e => by omega))⟩
/-- TopBusy's state: the kernel, as U tells; the map in block ub, as V tells -/
structure By (w0 w : World) (k : KC) (ub nc now i top : Nat) (U : Nat → Option Nat) (sp : Nat → Nat) (V : Nat → Option Nat) (s : KSt) (n : Nat) : Prop where
  sv : Sv w0 w k s
  bz : Bz s nc now i top U sp
  tg : s.tag ub = 0
  ul : w0.heap.size ≤ ub
  nm : NMap w ub n (cntU V) (uF V)
  ns : n ≤ i + 1
section
variable {w0 w w' : World} {k : KC} {ub nc now i top now' i' top' n : Nat} {U V U' V' : Nat → Option Nat} {sp sp' : Nat → Nat} {s s' : KSt}
theorem By.keep (h : By w0 w k ub nc now i top U sp V s n) (hb : Below w.heap.size w w') : By w0 w' k ub nc now i top U sp V s n := ⟨h.sv.keep hb, h.bz, h.tg, h.ul, h.nm.keep hb, h.ns⟩
/-- behind a call of the kernel -/
theorem By.kg (h : By w0 w k ub nc now i top U sp V s n) (hg : KG s k w w' s') (hb : Bz s' nc now' i' top' U' sp') (hi : i ≤ i') : By w0 w' k ub nc now' i' top' U' sp' V s' n := by
  refine ⟨h.sv.kg hg, hb, ?_, h.ul, h.nm.upd hg.up (fun e => e h.tg), Nat.le_trans h.ns (by omega)⟩
  cases Nat.eq_zero_or_pos (s'.tag ub) with
  | inl e => exact e
  | inr e =>
    rcases hg.far ub (by omega) with q | q
    · exact absurd h.tg q
    · have := h.nm.lt; omega
/-- behind a change of the map -/
theorem By.map {n' : Nat} (h : By w0 w k ub nc now i top U sp V s n) (hg : w.grownBy w' (some ub)) (hm : NMap w' ub n' (cntU V') (uF V')) (hn : n' ≤ i + 1) : By w0 w' k ub nc now i top U sp V' s n' := ⟨h.sv.own (Upd.grown hg rfl) h.ul h.tg, h.bz, h.tg, h.ul, hm, hn⟩
/-- behind a step of the law that only makes blocks of its own -/
theorem By.own {b : Nat} (h : By w0 w k ub nc now i top U sp V s n) (hu : Upd (fun j => j = b) w w') (h0 : w0.heap.size ≤ b) (ht : s.tag b = 0) (hne : b ≠ ub) : By w0 w' k ub nc now i top U sp V s n := ⟨h.sv.own hu h0 ht, h.bz, h.tg, h.ul, h.nm.upd hu (fun e => hne e.symm), h.ns⟩
theorem By.more (h : By w0 w k ub nc now i top U sp V s n) (hb : Bz s nc now (i + 1) top U sp) : By w0 w k ub nc now (i + 1) top U sp V s n := ⟨h.sv, hb, h.tg, h.ul, h.nm, by have := h.ns; omega⟩
theorem Bz.more (h : Bz s nc now i top U sp) : Bz s nc now (i + 1) top U sp := ⟨h.cp, h.c0, h.c9, h.wn0, h.wn1, h.tk0, h.tk1, h.fr, h.full, h.lm, h.vok, by have := h.ll; omega, h.wl, by have := h.wll; omega, h.u1, h.ur, h.dead, h.top17, h.t1, h.t0, h.ps, h.cwn, h.fd, h.fs, h.mz.more⟩
theorem By.tz (h : By w0 w k ub nc now i top U sp V s n) {b : Nat} (hb : w.heap.size ≤ b) : s.tag b = 0 := h.sv.kt.tz b hb
theorem By.i17 (h : By w0 w k ub nc now i top U sp V s n) {p j : Nat} (hp : U p = some j) : p < 17 := by
  have := h.bz.ur p j hp
  have := h.bz.top17
  omega
theorem By.put {T : TypeId} (h : By w0 w k ub nc now i top U sp V s n) (ht : Tryz.prog.underlying T = some (.map 3 3)) {p m : Nat} (hp : p < 17) (hm : m < 1000000) (hi : i < 100) (hni : n ≤ i) : ∃ w', (Instr.mapUpdate T (.map (some ub)) (.int .i64 p) (.int .i64 m)).run Tryz.prog w = .ok () w' ∧ By w0 w' k ub nc now i top U sp (fup V p (some m)) s (n + 1) ∧ Upd (fun j => j = ub) w w' := by
  obtain ⟨w', hr, hm', hg⟩ := h.nm.put ht (k := p) (x := m) (wf_any (by omega)) (wf_any hm) (by have := h.ns; unfold maxLen; omega)
  refine ⟨w', hr, ?_, Upd.grown hg rfl⟩
  rw [uF_put] at hm'
  have e : (if (uF V p).isSome = true then cntU V else cntU V + 1) = cntU (fup V p (some m)) := by
    rw [uF_nat]
    cases e : V p with
    | none => rw [cntU_put e hp]; rfl
    | some j => rw [cntU_same e]; rfl
  rw [e] at hm'
  exact ⟨h.sv.own (Upd.grown hg rfl) h.ul h.tg, h.bz, h.tg, h.ul, hm', by omega⟩
theorem By.del {T ty : TypeId} (h : By w0 w k ub nc now i top U sp V s n) (ht : Tryz.prog.underlying T = some (.map 3 3)) {p m : Nat} (hp : V p = some m) (h17 : p < 17) : ∃ w', (Builtin.delete_ #[T, 3] ty #[.map (some ub), .int .i64 p]).run Tryz.prog w = .ok (.tuple #[]) w' ∧ By w0 w' k ub nc now i top U sp (fup V p none) s n := by
  obtain ⟨w', hr, hm', hg⟩ := h.nm.del ht (k := p) (wf_any (by omega)) (by rw [uF_nat, hp]; rfl) ty
  refine ⟨w', hr, h.map hg ?_ h.ns⟩
  rw [uF_del] at hm'
  rw [cntU_del hp h17] at hm'
  exact hm'
end
end Go.Proofs.YtafflkemnniegaaGreatDoor
namespace Go.Proofs.YtafflkemnniegaaGreatDoor
open Go.RowKit
set_option linter.unusedVariables false
set_option linter.unusedSimpArgs false
/-- who runs on a processor -/
def onP (l : List Tk) (c : Nat) : Option Int := (onG l c).bind fun i => (l[i]?).map (·.t)
/-- has a task been met on the first c processors? -/
def seenB (l : List Tk) : Nat → Int → Bool
  | 0, _ => false
  | c + 1, t => seenB l c t || (onP l c == some t)
def seenF (l : List Tk) (c : Nat) : Int → Option Unit := fun t => if seenB l c t then some () else none
theorem seenF_zero (l : List Tk) : seenF l 0 = fun _ => none := rfl
theorem onP_none {l : List Tk} {c : Nat} (h : onG l c = none) : onP l c = none := by unfold onP; rw [h]; rfl
theorem onP_some {l : List Tk} {c i : Nat} {x : Tk} (h : onG l c = some i) (hx : l[i]? = some x) : onP l c = some x.t := by unfold onP; rw [h]; show (l[i]?).map _ = _; rw [hx]; rfl
theorem seenF_no {l : List Tk} {c : Nat} (h : onG l c = none) : seenF l (c + 1) = seenF l c := by
  funext t
  unfold seenF
  rw [seenB, onP_none h]
  simp
theorem seenF_yes {l : List Tk} {c i : Nat} {x : Tk} (h : onG l c = some i) (hx : l[i]? = some x) : seenF l (c + 1) = fun t => if t = x.t then some () else seenF l c t := by
  funext t
  unfold seenF
  rw [seenB, onP_some h hx]
  by_cases e : t = x.t
  · rw [if_pos e, if_pos (by rw [e]; simp)]
  · rw [if_neg e]
    have : (some x.t == some t) = false := by simpa using fun q => e q.symm
    rw [this, Bool.or_false]
theorem seenB_at {l : List Tk} {t : Int} : ∀ {c : Nat}, seenB l c t = true → ∃ d, d < c ∧ onP l d = some t
  | 0, h => by cases h
  | c + 1, h => by
    rw [seenB, Bool.or_eq_true] at h
    rcases h with h | h
    · obtain ⟨d, h1, h2⟩ := seenB_at h
      exact ⟨d, by omega, h2⟩
    · exact ⟨c, by omega, by simpa using h⟩
/-- nobody is met twice -/
theorem seen_new {nc : Nat} {l : List Tk} (hf : Pre nc l) {c i : Nat} {x : Tk} (h : onG l c = some i) (hx : l[i]? = some x) : seenF l c x.t = none := by
  unfold seenF
  rw [if_neg]
  intro hs
  obtain ⟨d, hd, hp⟩ := seenB_at hs
  obtain ⟨x', hx', hc⟩ := onG_some h
  rw [hx] at hx'
  injection hx' with hx'
  subst hx'
  cases ho : onG l d with
  | none => rw [onP_none ho] at hp; cases hp
  | some j =>
    obtain ⟨y, hy, hyc⟩ := onG_some ho
    rw [onP_some ho hy] at hp
    injection hp with hp
    have := hf.id j i y x hy hx hp
    subst this
    rw [hy] at hx
    injection hx with hx
    subst hx
    omega
theorem busy_no {l : List Tk} {c : Nat} (h : onG l c = none) : busyN l (c + 1) = busyN l c := by unfold busyN; rw [cntB, h]; rfl
theorem busy_yes {l : List Tk} {c i : Nat} (h : onG l c = some i) : busyN l (c + 1) = busyN l c + 1 := by unfold busyN; rw [cntB, h]; rfl
theorem busy_le (l : List Tk) (c : Nat) : busyN l c ≤ c := cntB_le _ c
/-- the law's state while the processors step -/
structure Bs (w0 w : World) (k : KC) (ub sb nc now i top : Nat) (U : Nat → Option Nat) (sp : Nat → Nat) (l : List Tk) (c : Nat) (s : KSt) (n ns : Nat) : Prop where
  by' : By w0 w k ub nc now i top U sp U s n
  le : s.l = l
  tg : s.tag sb = 0
  sm : CMap cT w sb ns (seenF l c)
  nl : ns ≤ c
  sl : w0.heap.size ≤ sb
section
variable {w0 w w' : World} {k : KC} {ub sb nc now i top c n ns : Nat} {U : Nat → Option Nat} {sp : Nat → Nat} {l : List Tk} {s s' : KSt}
theorem Bs.keep (h : Bs w0 w k ub sb nc now i top U sp l c s n ns) (hb : Below w.heap.size w w') : Bs w0 w' k ub sb nc now i top U sp l c s n ns := ⟨h.by'.keep hb, h.le, h.tg, h.sm.keep hb, h.nl, h.sl⟩
theorem Bs.kg (h : Bs w0 w k ub sb nc now i top U sp l c s n ns) (hg : KG s k w w' s') (hb : Bz s' nc now i top U sp) (hl : s'.l = s.l) : Bs w0 w' k ub sb nc now i top U sp l c s' n ns := by
  refine ⟨h.by'.kg hg hb (Nat.le_refl _), hl.trans h.le, ?_, h.sm.upd hg.up (fun e => e h.tg), h.nl, h.sl⟩
  cases Nat.eq_zero_or_pos (s'.tag sb) with
  | inl e => exact e
  | inr e =>
    rcases hg.far sb (by omega) with q | q
    · exact absurd h.tg q
    · have := h.sm.lt; omega
theorem Bs.no (h : Bs w0 w k ub sb nc now i top U sp l c s n ns) (ho : onG l c = none) : Bs w0 w k ub sb nc now i top U sp l (c + 1) s n ns := ⟨h.by', h.le, h.tg, by rw [seenF_no ho]; exact h.sm, by have := h.nl; omega, h.sl⟩
theorem Bs.put {T : TypeId} (h : Bs w0 w k ub sb nc now i top U sp l c s n ns) (ht : Tryz.prog.underlying T = some (.map 3 4)) {j : Nat} {x : Tk} (ho : onG l c = some j) (hx : l[j]? = some x) {p : Nat} (hp : x.t = (p : Int)) (h17 : p < 17) (hc : c < 100) (hne : sb ≠ ub) : ∃ w', (Instr.mapUpdate T (.map (some sb)) (.int .i64 p) (.bool true)).run Tryz.prog w = .ok () w' ∧ Bs w0 w' k ub sb nc now i top U sp l (c + 1) s n (ns + 1) := by
  obtain ⟨w', hr, hm, hg⟩ := h.sm.put ht (k := p) (wf_any (by omega)) (by have := h.nl; unfold maxLen; omega) ()
  refine ⟨w', hr, h.by'.own (Upd.grown hg rfl) h.sl h.tg hne, h.le, h.tg, ?_, by have := h.nl; omega, h.sl⟩
  rw [seenF_yes ho hx, hp]
  exact hm
end
end Go.Proofs.YtafflkemnniegaaGreatDoor
