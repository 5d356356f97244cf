/- What a call may turn: the blocks of a set, and none but them; new ones may come. No program here. The walks of proc.Fork, Exit, Wait. The walks of proc.Exit, proc.Wait. -/
import Derived.Test.YtmdjkoiglghipaaGreatDoorOwn
namespace Go.Proofs.YtmdjkoiglghipaaGreatDoor
open Go.RowKit
set_option linter.unusedVariables false
set_option linter.unusedSimpArgs false
/-- From w on only blocks of S were turned. -/
structure Upd (S : Nat → Prop) (w w' : World) : Prop where
  os : w'.os = w.os
  tape : w'.tape = w.tape
  output : w'.output = w.output
  size : w.heap.size ≤ w'.heap.size
  block : ∀ k, k < w.heap.size → ¬ S k → w'.heap[k]? = w.heap[k]?
section
variable {S S' : Nat → Prop} {w w' a b c : World}
theorem Upd.refl (S : Nat → Prop) (w : World) : Upd S w w := ⟨rfl, rfl, rfl, Nat.le_refl _, fun _ _ _ => rfl⟩
theorem Upd.trans' (h : Upd S a b) (k : Upd S' b c) (hs : ∀ i, i < a.heap.size → S' i → S i) : Upd S a c :=
  ⟨k.os.trans h.os, k.tape.trans h.tape, k.output.trans h.output, Nat.le_trans h.size k.size, fun i hi hn => (k.block i (Nat.lt_of_lt_of_le hi h.size) (fun e => hn (hs i hi e))).trans (h.block i hi hn)⟩
theorem Upd.trans (h : Upd S a b) (k : Upd S b c) : Upd S a c := h.trans' k (fun _ _ e => e)
theorem Upd.mono (h : Upd S a b) (hs : ∀ i, i < a.heap.size → S i → S' i) : Upd S' a b :=
  ⟨h.os, h.tape, h.output, h.size, fun i hi hn => h.block i hi (fun e => hn (hs i hi e))⟩
theorem Upd.below (h : Below w.heap.size w w') : Upd S w w' := ⟨h.os, h.tape, h.output, h.size, fun i hi _ => h.block i hi⟩
theorem Upd.grown {b : Nat} (h : w.grownBy w' (some b)) (hb : S b) : Upd S w w' := ⟨h.os, h.tape, h.output, h.size, fun i hi hn => h.block i hi (by intro e; injection e with e; subst e; exact hn hb)⟩
theorem Upd.grown0 {row : Option Nat} (h : w.grownBy w' row) (hb : ∀ b, row = some b → b < w.heap.size → S b) : Upd S w w' := ⟨h.os, h.tape, h.output, h.size, fun i hi hn => h.block i hi (fun e => hn (hb i e.symm hi))⟩
theorem Upd.set (w : World) {b i : Nat} (v : Value) (hb : S b) : Upd S w (w.setCell ⟨b, i, none⟩ v) :=
  ⟨rfl, rfl, rfl, by simp [World.setCell], fun k hk hn => Below.heap_setCell _ _ _ _ (by intro e; subst e; exact hn hb)⟩
theorem Upd.setRow (w : World) {b : Nat} (C : Array Value) (hb : S b) : Upd S w (w.setRow b C) :=
  ⟨rfl, rfl, rfl, by simp [World.setRow], fun k hk hn => setRow_other w b k C (by intro e; subst e; exact hn hb)⟩
theorem Upd.drewN (w : World) (n : Nat) : Upd S w (w.drewN n) := ⟨rfl, rfl, rfl, Nat.le_refl _, fun _ _ _ => rfl⟩
theorem Upd.drew (w : World) : Upd S w w.drew := ⟨rfl, rfl, rfl, Nat.le_refl _, fun _ _ _ => rfl⟩
theorem Upd.alloc (w : World) (o : Obj) : Upd S w (w.alloc o) := Upd.below ((Below.refl _ _).alloc (Nat.le_refl _) o)
theorem Upd.cell (h : Upd S w w') {b o : Nat} (hb : b < w.heap.size) (hn : ¬ S b) : w'.cell? ⟨b, o, none⟩ = w.cell? ⟨b, o, none⟩ := by
  have := h.block b hb hn
  simp only [World.cell?, this]
theorem Upd.frozen (h : Upd S w w') {b o : Nat} (hb : b < w.heap.size) (hn : ¬ S b) : w'.frozen? ⟨b, o, none⟩ = w.frozen? ⟨b, o, none⟩ := by
  have := h.block b hb hn
  simp only [World.frozen?, this]
theorem Upd.toBelow {B : Nat} (h : Upd S w w') (hB : B ≤ w.heap.size) (hs : ∀ k, k < B → ¬ S k) : Below B w w' :=
  ⟨h.os, h.tape, h.output, h.size, fun k hk => h.block k (by omega) (hs k hk)⟩
theorem Upd.owns {B e s n : Nat} {v : Value} {l : List Value} (h : Upd S w w') (ho : w.ownsRow B e s v n l) (hn : ∀ g, v.ownBlock = some g → ¬ S g) : w'.ownsRow B e s v n l := by
  refine ⟨ho.1, ?_⟩
  rcases ho.2 with h0 | ⟨g, c, cur, he, hb, hg, hr⟩
  · exact .inl h0
  · exact .inr ⟨g, c, cur, he, hb, (h.block g (Array.getElem?_eq_some_iff.1 hg).1 (hn g (by rw [he]; rfl))).trans hg, hr⟩
end
/-- a store into a cell that is there -/
theorem set_same {w : World} {b i : Nat} {x y : Value} (h : w.cell? ⟨b, i, none⟩ = some y) : (w.setCell ⟨b, i, none⟩ x).cell? ⟨b, i, none⟩ = some x := by
  simp [go_sem, h]
theorem set_off {w : World} {b c i j : Nat} {x v : Value} (hj : j ≠ i) (h : w.cell? ⟨b, j, none⟩ = some v) : (w.setCell ⟨c, i, none⟩ x).cell? ⟨b, j, none⟩ = some v := by
  rw [World.cell?_setCell_other _ _ _ _ (by intro e; exact hj (by simpa using (congrArg Addr.off e).symm))]; exact h
theorem set_blk {w : World} {b c i j : Nat} {x v : Value} (hj : b ≠ c) (h : w.cell? ⟨b, j, none⟩ = some v) : (w.setCell ⟨c, i, none⟩ x).cell? ⟨b, j, none⟩ = some v := by
  rw [World.cell?_setCell_other _ _ _ _ (by intro e; exact hj (by simpa using (congrArg Addr.block e).symm))]; exact h
theorem grown_cell {w w' : World} {row : Option Nat} (h : w.grownBy w' row) {b o : Nat} (hlt : b < w.heap.size) (hne : some b ≠ row) : w'.cell? ⟨b, o, none⟩ = w.cell? ⟨b, o, none⟩ := by
  have := h.block b hlt hne
  simp only [World.cell?, this]
theorem grown_frozen {w w' : World} {row : Option Nat} (h : w.grownBy w' row) {b o : Nat} (hlt : b < w.heap.size) (hne : some b ≠ row) : w'.frozen? ⟨b, o, none⟩ = w.frozen? ⟨b, o, none⟩ := by
  have := h.block b hlt hne
  simp only [World.frozen?, this]
theorem below_drewN {B : Nat} {a w : World} (h : Below B a w) (n : Nat) : Below B a (w.drewN n) := ⟨h.os, h.tape, h.output, h.size, h.block⟩
end Go.Proofs.YtmdjkoiglghipaaGreatDoor
namespace Go.Proofs.YtmdjkoiglghipaaGreatDoor.ProcLaw
set_option linter.unusedSimpArgs false
open Go.RowKit
set_option linter.unusedVariables false

def ForkPost (t : T) (b : Nat) (p : Int) (w : World) (e : Ending) (w' : World) : Prop :=
  ∃ r en t', e = .returned (.tuple #[.int .i64 r, .int .i64 en]) ∧ Upd (fun k => k = b) w w' ∧ TabAt w' b t' ∧
    ((en ≠ 0 ∧ t' = t ∧ (livR t p ≠ 0 ∨ ∀ k, 1 ≤ k → k ≤ 16 → (t k).st ≠ 0)) ∨ (en = 0 ∧ ∃ k q : Nat, r = k ∧ 1 ≤ k ∧ k ≤ 16 ∧ (t k).st = 0 ∧ (∀ j, 1 ≤ j → j < k → (t j).st ≠ 0) ∧ p = q ∧ alive t q ∧ t' = forked t k q))
set_option maxRecDepth 100000 in
set_option maxHeartbeats 4000000 in
theorem fork_is {w : World} {b : Nat} {t : T} (p : Int) (h : TabAt w b t) : Calls Tryz.prog 188 #[.pointer (some ⟨b, 0, none⟩), .int .i64 p] w (ForkPost t b p w) := by
  have HL := Lib.hid (living_is p h)
  have HT := Lib.hid h
  by_cases hl : livR t p = 0
  · obtain ⟨q, rfl, ha⟩ := livR_zero hl
    have HA := Lib.hid ha
    have HZ := Lib.hid hl
    obtain ⟨q1, q2, q3⟩ := ha
    have hq : (q : Int) < 17 := by omega
    have cg := h.gr q (by omega)
    clear hl q3 h
    go_enter Tryz.func188, Tryz.ntmps188
    go_wp2_with fail
    refine HL.out.mono ?_
    rintro e w1 ⟨rfl, rfl⟩
    rw [HZ.out]
    go_wp2
    go_loop [7] (fun i => ∃ k : Nat, 1 ≤ k ∧ k ≤ 17 ∧ i = .int .i64 k ∧ Hid (∀ j, 1 ≤ j → j < k → (t j).st ≠ 0)) (fun i => 17 - (intOf i).toNat)
    case atStart => exact ⟨1, by omega, by omega, rfl, fun j h1 h2 => absurd h2 (by omega)⟩
    case round =>
      obtain ⟨k, k1, k2, rfl, HK⟩ := hrel
      by_cases hlt : k ≤ 16
      · have hk : (k : Int) < 17 := by omega
        have c0 := HT.out.st k (by omega)
        by_cases hs : (t k).st = 0
        · have HS := Lib.hid hs
          rw [hs] at c0
          have c1 := HT.out.par k (by omega)
          have c2 := HT.out.gr k (by omega)
          have c3 := HT.out.code k (by omega)
          have f0 := HT.out.fz (k * 4)
          have f1 := HT.out.fz (k * 4 + 1)
          have f2 := HT.out.fz (k * 4 + 2)
          have f3 := HT.out.fz (k * 4 + 3)
          have HKK := Lib.hid (And.intro k1 hlt)
          clear hs
          go_wp2_with fail
          go_region
          all_goals
            go_wp2
            go_ret2
            refine ⟨k, 0, _, rfl, ?_, ?_, .inr ⟨rfl, k, q, rfl, HKK.out.1, HKK.out.2, HS.out, HK.out, rfl, HA.out, rfl⟩⟩
            · repeat (first | exact Upd.refl _ _ | refine Upd.trans ?_ (Upd.drew _) | refine Upd.trans ?_ (Upd.set _ _ rfl))
            · first | exact (HT.out.set4 (by omega) 1 q (t q).gr 0).drew | exact HT.out.drew.set4 (by omega) 1 q (t q).gr 0
        · have hs' : ((t k).st == 0) = false := by simp [hs]
          have HS := Lib.hid hs
          clear hs
          go_wp2
          go_round
          case rel =>
            refine ⟨k + 1, by omega, by omega, by go_num, fun j h1 h2 => ?_⟩
            rcases Nat.lt_succ_iff_lt_or_eq.1 h2 with h | rfl
            · exact HK.out j h1 h
            · exact HS.out
          case measure => simp [intOf]; omega
      · obtain rfl : k = 17 := by omega
        go_wp2
        go_ret2
        exact ⟨0, 6, t, rfl, Upd.refl _ _, HT.out, .inl ⟨by decide, rfl, .inr fun k h1 h2 => HK.out k h1 (by omega)⟩⟩
  · have hl' : (livR t p != 0) = true := by simp [hl]
    have HZ := Lib.hid hl
    clear hl h
    generalize hx : livR t p = x at *
    go_enter Tryz.func188, Tryz.ntmps188
    go_wp2_with fail
    refine HL.out.mono ?_
    rintro e w1 ⟨rfl, rfl⟩
    go_wp2
    go_ret2
    exact ⟨0, x, t, rfl, Upd.refl _ _, HT.out, .inl ⟨HZ.out, rfl, .inl (by rw [hx]; exact HZ.out)⟩⟩
end Go.Proofs.YtmdjkoiglghipaaGreatDoor.ProcLaw
namespace Go.Proofs.YtmdjkoiglghipaaGreatDoor.ProcLaw
set_option linter.unusedSimpArgs false
open Go.RowKit
set_option linter.unusedVariables false

def ExitPost (t : T) (b : Nat) (p c : Int) (w : World) (e : Ending) (w' : World) : Prop :=
  ∃ r en t', e = .returned (.tuple #[.int .i64 r, .int .i64 en]) ∧ Upd (fun k => k = b) w w' ∧ TabAt w' b t' ∧
    ((en ≠ 0 ∧ t' = t ∧ (livR t p ≠ 0 ∨ p = 1)) ∨ (en = 0 ∧ ∃ q : Nat, p = q ∧ alive t q ∧ q ≠ 1 ∧ t' = ended t q (bits .and .i64 c 255) ∧ r = (t' q).par))
theorem orphan_yes {p : Nat} {e : E} (h : e.st ≠ 0) (h2 : e.par = p) : orphan p e = ⟨e.st, 1, e.gr, e.code⟩ := if_pos ⟨h, h2⟩
theorem orphan_no {p : Nat} {e : E} (h : ¬ (e.st ≠ 0 ∧ e.par = p)) : orphan p e = e := if_neg h
theorem lost_stay {t : T} {p k : Nat} (h : ¬ ((t k).st ≠ 0 ∧ (t k).par = p)) : lost t p (k + 1) = lost t p k := by
  rw [lost_next, orphan_no h]
  funext j
  by_cases e : j = k
  · subst e; rw [updE_same, lost_at]
  · rw [updE_other _ _ e]
theorem lost_go {t : T} {p k : Nat} (h : (t k).st ≠ 0) (h2 : (t k).par = p) : lost t p (k + 1) = updE (lost t p k) k ⟨(t k).st, 1, (t k).gr, (t k).code⟩ := by
  rw [lost_next, orphan_yes h h2]
theorem ended_at {t : T} {q : Nat} {c : Int} : updE (lost t q 17) q ⟨2, (lost t q 17 q).par, (lost t q 17 q).gr, c⟩ = ended t q c := rfl
theorem TabAt.endA {w : World} {b q : Nat} {t : T} {c : Int} (h : TabAt w b (lost t q 17)) (hq : q < 17) : TabAt ((w.setCell ⟨b, q * 4, none⟩ (.int .i64 2)).setCell ⟨b, q * 4 + 3, none⟩ (.int .i64 c)) b (ended t q c) := by
  have h2 := (h.setSt hq 2).setCode hq c
  rw [updE_same, updE_twice] at h2
  exact h2
theorem TabAt.endB {w : World} {b q : Nat} {t : T} {c : Int} (h : TabAt w b (lost t q 17)) (hq : q < 17) : TabAt ((w.setCell ⟨b, q * 4 + 3, none⟩ (.int .i64 c)).setCell ⟨b, q * 4, none⟩ (.int .i64 2)) b (ended t q c) := by
  have h2 := (h.setCode hq c).setSt hq 2
  rw [updE_same, updE_twice] at h2
  exact h2

set_option maxRecDepth 100000 in
set_option maxHeartbeats 4000000 in
theorem exit_is {w : World} {b : Nat} {t : T} (p c : Int) (h : TabAt w b t) : Calls Tryz.prog 80 #[.pointer (some ⟨b, 0, none⟩), .int .i64 p, .int .i64 c] w (ExitPost t b p c w) := by
  have HL := Lib.hid (living_is p h)
  have HT := Lib.hid h
  by_cases hl : livR t p = 0
  · obtain ⟨q, rfl, ha⟩ := livR_zero hl
    have HA := Lib.hid ha
    have HZ := Lib.hid hl
    obtain ⟨q1, q2, q3⟩ := ha
    have hq : (q : Int) < 17 := by omega
    clear hl q3 h
    by_cases h1 : q = 1
    · subst h1
      go_enter Tryz.func80, Tryz.ntmps80
      go_wp2_with fail
      refine HL.out.mono ?_
      rintro e w1 ⟨rfl, rfl⟩
      rw [HZ.out]
      go_wp2
      go_ret2
      exact ⟨0, 7, t, rfl, Upd.refl _ _, HT.out, .inl ⟨by decide, rfl, .inr rfl⟩⟩
    · have h1' : ((q : Int) == 1) = false := by simp; omega
      have H1 := Lib.hid h1
      clear h1
      go_enter Tryz.func80, Tryz.ntmps80
      go_wp2_with fail
      refine HL.out.mono ?_
      rintro e w1 ⟨rfl, rfl⟩
      rw [HZ.out]
      go_wp2
      go_loopw [18] (fun i wr => ∃ k : Nat, k ≤ 17 ∧ i = .int .i64 k ∧ Upd (fun k => k = b) w wr ∧ Hid (TabAt wr b (lost t q k))) (fun i _ => 17 - (intOf i).toNat)
      case atStart => exact ⟨0, by omega, rfl, Upd.refl _ _, by rw [lost_zero]; exact HT.out⟩
      case round =>
        obtain ⟨k, k2, rfl, hbel, HK⟩ := hrel
        by_cases hlt : k < 17
        · have hk : (k : Int) < 17 := by omega
          have c0 := HK.out.st k (by omega)
          have c1 := HK.out.par k (by omega)
          have f1 := HK.out.fz (k * 4 + 1)
          rw [lost_at] at c0 c1
          have HLT := Lib.hid hlt
          by_cases hs : (t k).st = 0
          · have HS := Lib.hid hs
            rw [hs] at c0
            clear hs
            go_wp2
            go_roundw
            case rel => exact ⟨k + 1, by omega, by go_num, hbel, by rw [lost_stay (fun h => h.1 HS.out)]; exact HK.out⟩
            case measure => simp [intOf]; omega
          · have hs' : ((t k).st != 0) = true := by simp [hs]
            have HS := Lib.hid hs
            clear hs
            by_cases hp : (t k).par = q
            · have HP := Lib.hid hp
              have hp' : ((t k).par == (q : Int)) = true := by simp [hp]
              have hset : TabAt (wr.setCell ⟨b, k * 4 + 1, none⟩ (.int .i64 1)) b (lost t q (k + 1)) := by
                rw [lost_go HS.out hp]
                have := HK.out.setPar (k := k) (by omega) 1
                rwa [lost_at] at this
              have HSET := Lib.hid hset
              clear hp hset
              go_wp2
              go_roundw
              case rel => exact ⟨k + 1, by omega, by go_num, hbel.trans (Upd.set _ _ rfl), HSET.out⟩
              case measure => simp [intOf]; omega
            · have hp' : ((t k).par == (q : Int)) = false := by simp [hp]
              have HP := Lib.hid hp
              clear hp
              go_wp2
              go_roundw
              case rel => exact ⟨k + 1, by omega, by go_num, hbel, by rw [lost_stay (fun h => HP.out h.2)]; exact HK.out⟩
              case measure => simp [intOf]; omega
        · obtain rfl : k = 17 := by omega
          have c0 := HK.out.st q (by omega)
          have c1 := HK.out.par q (by omega)
          have c3 := HK.out.code q (by omega)
          have f0 := HK.out.fz (q * 4)
          have f3 := HK.out.fz (q * 4 + 3)
          clear hlt k2
          go_wp2_with fail
          go_region
          all_goals
            go_wp2
            go_ret2
            refine ⟨_, 0, ended t q (bits .and .i64 c 255), rfl, ?_, ?_, .inr ⟨rfl, q, rfl, HA.out, H1.out, rfl, ?_⟩⟩
            · repeat (first | exact Upd.refl _ _ | refine Upd.trans ?_ (Upd.drew _) | refine Upd.trans ?_ (Upd.set _ _ rfl))
              exact hbel
            · first | exact (HK.out.endA (by omega)).drew | exact HK.out.drew.endA (by omega) | exact (HK.out.endB (by omega)).drew | exact HK.out.drew.endB (by omega)
            · rw [ended, updE_same]
  · have hl' : (livR t p != 0) = true := by simp [hl]
    have HZ := Lib.hid hl
    clear hl h
    generalize hx : livR t p = x at *
    go_enter Tryz.func80, Tryz.ntmps80
    go_wp2_with fail
    refine HL.out.mono ?_
    rintro e w1 ⟨rfl, rfl⟩
    go_wp2
    go_ret2
    exact ⟨0, x, t, rfl, Upd.refl _ _, HT.out, .inl ⟨HZ.out, rfl, .inl (by rw [hx]; exact HZ.out)⟩⟩

def WaitPost (t : T) (b : Nat) (p : Int) (w : World) (e : Ending) (w' : World) : Prop :=
  ∃ r c en t', e = .returned (.tuple #[.int .i64 r, .int .i64 c, .int .i64 en]) ∧ Upd (fun k => k = b) w w' ∧ TabAt w' b t' ∧
    ((en ≠ 0 ∧ t' = t ∧ (livR t p ≠ 0 ∨ (∀ j, j < 17 → ¬ ((t j).par = p ∧ (t j).st = 2)) ∧ (en = 9 ∧ (∃ j, j < 17 ∧ (t j).st ≠ 0 ∧ (t j).par = p) ∨ en = 4 ∧ ¬ ∃ j, j < 17 ∧ (t j).st ≠ 0 ∧ (t j).par = p))) ∨ (en = 0 ∧ ∃ k q : Nat, r = k ∧ k < 17 ∧ p = q ∧ alive t q ∧ (t k).st = 2 ∧ (t k).par = q ∧ (∀ j, j < k → ¬ ((t j).par = p ∧ (t j).st = 2)) ∧ c = (t k).code ∧ t' = updE t k e0))
set_option maxRecDepth 100000 in
set_option maxHeartbeats 4000000 in
theorem wait_is {w : World} {b : Nat} {t : T} (p : Int) (h : TabAt w b t) : Calls Tryz.prog 106 #[.pointer (some ⟨b, 0, none⟩), .int .i64 p] w (WaitPost t b p w) := by
  have HL := Lib.hid (living_is p h)
  have HT := Lib.hid h
  by_cases hl : livR t p = 0
  · obtain ⟨q, rfl, ha⟩ := livR_zero hl
    have HA := Lib.hid ha
    have HZ := Lib.hid hl
    clear hl h ha
    go_enter Tryz.func106, Tryz.ntmps106
    go_wp2_with fail
    refine HL.out.mono ?_
    rintro e w1 ⟨rfl, rfl⟩
    rw [HZ.out]
    go_wp2
    go_loop [8, 17] (fun s i => ∃ (k : Nat) (z : Bool), k ≤ 17 ∧ s = .bool z ∧ i = .int .i64 k ∧ Hid (∀ j, j < k → ¬ ((t j).par = (q : Int) ∧ (t j).st = 2)) ∧ Hid (z = true ↔ ∃ j, j < k ∧ (t j).st ≠ 0 ∧ (t j).par = (q : Int))) (fun _ i => 17 - (intOf i).toNat)
    case atStart => exact ⟨0, false, by omega, rfl, rfl, Lib.hid (fun j h2 => absurd h2 (by omega)), Lib.hid ⟨fun e => (by cases e), fun ⟨j, h, _⟩ => absurd h (by omega)⟩⟩
    case round =>
      obtain ⟨k, z, k2, rfl, rfl, HK, HZ2⟩ := hrel
      by_cases hlt : k < 17
      · have hk : (k : Int) < 17 := by omega
        have c0 := HT.out.st k (by omega)
        have c1 := HT.out.par k (by omega)
        have hnext : ¬ ((t k).par = (q : Int) ∧ (t k).st = 2) → ∀ j, j < k + 1 → ¬ ((t j).par = (q : Int) ∧ (t j).st = 2) := fun hn j hj => by
          rcases Nat.lt_succ_iff_lt_or_eq.1 hj with h | rfl
          · exact HK.out j h
          · exact hn
        have HNX := Lib.hid hnext
        clear hnext
        have HSA : Hid (¬ ((t k).st ≠ 0 ∧ (t k).par = (q : Int)) → (z = true ↔ ∃ j, j < k + 1 ∧ (t j).st ≠ 0 ∧ (t j).par = (q : Int))) := Lib.hid (fun hn => by
          rw [HZ2.out]
          constructor
          · rintro ⟨j, h1, h2⟩; exact ⟨j, by omega, h2⟩
          · rintro ⟨j, h1, h2⟩
            rcases Nat.lt_succ_iff_lt_or_eq.1 h1 with h | rfl
            · exact ⟨j, h, h2⟩
            · exact absurd h2 hn)
        by_cases hs : (t k).st = 0
        · have HS := Lib.hid hs
          rw [hs] at c0
          clear hs
          go_wp2
          go_round
          case rel => exact ⟨k + 1, z, by omega, rfl, by go_num, Lib.hid (HNX.out (fun h => by rw [HS.out] at h; cases h.2)), Lib.hid (HSA.out (fun h => h.1 HS.out))⟩
          case measure => simp [intOf]; omega
        · have hs' : ((t k).st == 0) = false := by simp [hs]
          have HS := Lib.hid hs
          clear hs
          by_cases hp : (t k).par = q
          · have HP := Lib.hid hp
            rw [hp] at c1
            clear hp
            by_cases h2 : (t k).st = 2
            · have H2 := Lib.hid h2
              rw [h2] at c0 hs'
              have c2 := HT.out.gr k (by omega)
              have c3 := HT.out.code k (by omega)
              have f0 := HT.out.fz (k * 4)
              have f1 := HT.out.fz (k * 4 + 1)
              have f2 := HT.out.fz (k * 4 + 2)
              have f3 := HT.out.fz (k * 4 + 3)
              have HLT := Lib.hid hlt
              clear h2
              go_wp2
              refine bodyPost_ret (v := .tuple #[.int .i64 k, .int .i64 (t k).code, .int .i64 0]) (by simp [results, Tryz.results106, go_sem]) rfl ⟨k, (t k).code, 0, updE t k e0, rfl, ?_, ?_, .inr ⟨rfl, k, q, rfl, HLT.out, rfl, HA.out, H2.out, HP.out, HK.out, rfl, rfl⟩⟩
              · repeat (first | exact Upd.refl _ _ | refine Upd.trans ?_ (Upd.drew _) | refine Upd.trans ?_ (Upd.set _ _ rfl))
              · exact HT.out.set4 (by omega) 0 0 0 0
            · have h2' : ((t k).st == 2) = false := by simp [h2]
              have H2 := Lib.hid h2
              clear h2
              go_wp2
              go_round
              case rel => exact ⟨k + 1, true, by omega, rfl, by go_num, Lib.hid (HNX.out (fun h => H2.out h.2)), Lib.hid ⟨fun _ => ⟨k, by omega, HS.out, HP.out⟩, fun _ => rfl⟩⟩
              case measure => simp [intOf]; omega
          · have hp' : ((t k).par != (q : Int)) = true := by simp [hp]
            have HP := Lib.hid hp
            clear hp
            go_wp2
            go_round
            case rel => exact ⟨k + 1, z, by omega, rfl, by go_num, Lib.hid (HNX.out (fun h => HP.out h.1)), Lib.hid (HSA.out (fun h => HP.out h.2))⟩
            case measure => simp [intOf]; omega
      · obtain rfl : k = 17 := by omega
        cases z
        · go_wp2
          refine bodyPost_ret (v := .tuple #[.int .i64 0, .int .i64 0, .int .i64 4]) (by simp [results, Tryz.results106, go_sem]) rfl ⟨0, 0, 4, t, rfl, Upd.refl _ _, HT.out, .inl ⟨by decide, rfl, .inr ⟨HK.out, .inr ⟨rfl, fun e => by have := HZ2.out.2 e; cases this⟩⟩⟩⟩
        · go_wp2
          refine bodyPost_ret (v := .tuple #[.int .i64 0, .int .i64 0, .int .i64 9]) (by simp [results, Tryz.results106, go_sem]) rfl ⟨0, 0, 9, t, rfl, Upd.refl _ _, HT.out, .inl ⟨by decide, rfl, .inr ⟨HK.out, .inl ⟨rfl, HZ2.out.1 trivial⟩⟩⟩⟩
  · have hl' : (livR t p != 0) = true := by simp [hl]
    have HZ := Lib.hid hl
    clear hl h
    generalize hx : livR t p = x at *
    go_enter Tryz.func106, Tryz.ntmps106
    go_wp2_with fail
    refine HL.out.mono ?_
    rintro e w1 ⟨rfl, rfl⟩
    go_wp2
    refine bodyPost_ret (v := .tuple #[.int .i64 0, .int .i64 0, .int .i64 x]) (by simp [results, Tryz.results106, go_sem]) rfl ⟨0, 0, x, t, rfl, Upd.refl _ _, HT.out, .inl ⟨HZ.out, rfl, .inl (by rw [hx]; exact HZ.out)⟩⟩
end Go.Proofs.YtmdjkoiglghipaaGreatDoor.ProcLaw
