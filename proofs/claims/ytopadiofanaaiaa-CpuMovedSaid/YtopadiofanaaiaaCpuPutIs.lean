/- What put computes, and what it leaves as it was. -/
import Derived.Test.YtopadiofanaaiaaCpuSpec
namespace Go.Proofs.Ytopadiofanaaiaa.CpuLaw
open Go.RowKit
set_option linter.unusedVariables false
set_option linter.unusedSimpArgs false
section
variable {w : World} {b a a1 a2 a3 x z0 z1 z2 z3 n : Nat} {P : Nat → World → Prop}
abbrev StoreYes (P : Nat → World → Prop) (b a z j : Nat) : Prop := ∀ w1, P j w1 → Calls Try.prog 63 #[.pointer (some ⟨b, 0, none⟩), .int .u32 a, .int .u8 z] w1 fun e w' => e = .returned (.int .i64 0) ∧ P (j + 1) w'
abbrev StoreNo (P : Nat → World → Prop) (b a z j : Nat) : Prop := ∀ w1, P j w1 → Calls Try.prog 63 #[.pointer (some ⟨b, 0, none⟩), .int .u32 a, .int .u8 z] w1 fun e w' => e = .returned (.int .i64 11) ∧ w' = w1
abbrev PutTo (w : World) (b a x : Nat) (P : Nat → World → Prop) (r : Nat × Int × Nat) : Prop := Calls Try.prog 46 #[bus b, .int .u32 a, .int .u32 x] w fun e w' => e = .returned (trap r.2.1 r.2.2) ∧ ∃ w1 u v, P r.1 w1 ∧ w' = (w1.setCell ⟨w.heap.size, 0, none⟩ u).setCell ⟨w.heap.size, 1, none⟩ v
theorem sh_ok {x : Nat} (y k z : Nat) (hy : y < 32) (hk : 2 ^ y = k) (hz : x / k = z) (w : World) : (shr33 (.int .u32 x) (.int .u32 y)).run Try.prog w = .ok (.int .u32 z) w := shr_u32 (k := 0) hy (by rw [hk]; exact hz) w
theorem n_ok {x z : Nat} (h : x % 256 = z) (w : World) : (narrow (.int .u32 x)).run Try.prog w = .ok (.int .u8 z) w := narrow_u8 h w
theorem put_any {p0 p1 p2 p3 : Prop} [Decidable p0] [Decidable p1] [Decidable p2] [Decidable p3] (h4 : ((a : Int) % 4 != 0) = false) (d0 : Dk a 0 a) (d1 : Dk a 1 a1) (d2 : Dk a 2 a2) (d3 : Dk a 3 a3)
    (hP0 : P 0 (w.alloc (.cells #[.int .i64 0, .int .u32 0] 63))) (hP : ∀ j w1, P j w1 → Slot w.heap.size 0 0 w1) (h0 : x % 256 = z0) (h1 : x / 256 % 256 = z1) (h2 : x / 65536 % 256 = z2) (h3 : x / 16777216 % 256 = z3)
    (Y0 : p0 → StoreYes P b a z0 0) (N0 : ¬ p0 → StoreNo P b a z0 0) (Y1 : p1 → StoreYes P b a1 z1 1) (N1 : ¬ p1 → StoreNo P b a1 z1 1) (Y2 : p2 → StoreYes P b a2 z2 2) (N2 : ¬ p2 → StoreNo P b a2 z2 2) (Y3 : p3 → StoreYes P b a3 z3 3) (N3 : ¬ p3 → StoreNo P b a3 z3 3) :
    PutTo w b a x P (first4 p0 p1 p2 p3 (0, 2, a) (1, 2, a1) (2, 2, a2) (3, 2, a3) (4, 0, 0)) := by
  have s0 := sh_ok (x := x) 0 1 x (by decide) rfl (Nat.div_one _)
  have s1 := sh_ok (x := x) 8 256 _ (by decide) rfl rfl
  have s2 := sh_ok (x := x) 16 65536 _ (by decide) rfl rfl
  have s3 := sh_ok (x := x) 24 16777216 _ (by decide) rfl rfl
  unfold first4
  by_cases c0 : p0
  · rw [if_pos c0]
    by_cases c1 : p1
    · rw [if_pos c1]
      by_cases c2 : p2
      · rw [if_pos c2]
        by_cases c3 : p3
        · rw [if_pos c3]
          exact (put_walk h4 hP0 hP d0 s0 (n_ok h0) (Y0 c0) d1 s1 (n_ok h1) (Y1 c1) d2 s2 (n_ok h2) (Y2 c2) d3 s3 (n_ok h3) (Y3 c3)).mono fun e w' ⟨he, w1, hw, hs⟩ => ⟨he, w1, _, _, hw, hs⟩
        · rw [if_neg c3]
          exact (put_no3 h4 hP0 hP d0 s0 (n_ok h0) (Y0 c0) d1 s1 (n_ok h1) (Y1 c1) d2 s2 (n_ok h2) (Y2 c2) d3 s3 (n_ok h3) (N3 c3)).mono fun e w' ⟨he, w1, hw, hs⟩ => ⟨he, w1, _, _, hw, hs⟩
      · rw [if_neg c2]
        exact (put_no2 h4 hP0 hP d0 s0 (n_ok h0) (Y0 c0) d1 s1 (n_ok h1) (Y1 c1) d2 s2 (n_ok h2) (N2 c2)).mono fun e w' ⟨he, w1, hw, hs⟩ => ⟨he, w1, _, _, hw, hs⟩
    · rw [if_neg c1]
      exact (put_no1 h4 hP0 hP d0 s0 (n_ok h0) (Y0 c0) d1 s1 (n_ok h1) (N1 c1)).mono fun e w' ⟨he, w1, hw, hs⟩ => ⟨he, w1, _, _, hw, hs⟩
  · rw [if_neg c0]
    exact (put_no0 h4 hP0 hP d0 s0 (n_ok h0) (N0 c0)).mono fun e w' ⟨he, w1, hw, hs⟩ => ⟨he, w1, _, _, hw, hs⟩
end
/-- the rooms in turn -/
def after (m : M) (a x : Nat) : Nat → M
  | 0 => m
  | 1 => setM m (idx m a) (x % 256)
  | 2 => setM (setM m (idx m a) (x % 256)) (idx m (up a 1)) (x / 256 % 256)
  | 3 => setM (setM (setM m (idx m a) (x % 256)) (idx m (up a 1)) (x / 256 % 256)) (idx m (up a 2)) (x / 65536 % 256)
  | _ => setM (setM (setM (setM m (idx m a) (x % 256)) (idx m (up a 1)) (x / 256 % 256)) (idx m (up a 2)) (x / 65536 % 256)) (idx m (up a 3)) (x / 16777216 % 256)
instance (m : M) (a : Nat) : Decidable (canS m a) := by unfold canS; infer_instance
def putF (m : M) (a x : Nat) : Nat × Int × Nat :=
  if a % 4 = 0 then first4 (canS m a) (canS m (up a 1)) (canS m (up a 2)) (canS m (up a 3)) (0, 2, a) (1, 2, up a 1) (2, 2, up a 2) (3, 2, up a 3) (4, 0, 0) else (0, 2, a)
/-- a store to a block of the room's bytes -/
theorem Slot.keep {n : Nat} {k : Int} {a c : Nat} {w w' : World} (h : Slot n k a w) (ho : Off c w w') (hc : n ≠ c) : Slot n k a w' :=
  ⟨Nat.lt_of_lt_of_le h.lt ho.size, (ho.cell (p := ⟨n, 0, none⟩) h.lt hc).trans h.c0, (ho.cell (p := ⟨n, 1, none⟩) h.lt hc).trans h.c1, fun i => (ho.frozen (p := ⟨n, i, none⟩) h.lt hc).trans (h.fz i)⟩
/-- the room as it is after j bytes -/
structure PutP (w : World) (b c : Nat) (ms : Nat → M) (j : Nat) (w1 : World) : Prop where
  off : Off c w w1
  room : Room w1 b c (ms j)
  slot : Slot w.heap.size 0 0 w1
theorem store_go {w : World} {b c a z j : Nat} {ms : Nat → M} (hcl : c < w.heap.size) (hm : ms (j + 1) = setM (ms j) (idx (ms j) a) z) (hz : z < 256) (hc : canS (ms j) a) : StoreYes (PutP w b c ms) b a z j := by
  intro w1 h
  refine (store_yes h.room hc hz).mono ?_
  rintro e w' ⟨rfl, rfl, h2⟩
  refine ⟨rfl, h.off.trans (Off.set _ _), by rw [hm]; exact h2, h.slot.keep (Off.set _ _) (by omega)⟩
theorem store_stop {w : World} {b c a z j : Nat} {ms : Nat → M} (hc : ¬ canS (ms j) a) : StoreNo (PutP w b c ms) b a z j := fun w1 h => store_no h.room hc
theorem slot_new (w : World) : Slot w.heap.size 0 0 (w.alloc (.cells #[.int .i64 0, .int .u32 0] 63)) := by
  refine ⟨by simp, ?_, ?_, fun i => ?_⟩ <;> simp [go_sem]
theorem Off.own {c n i : Nat} {w w1 : World} {v : Value} (h : Off c w w1) (hn : w.heap.size ≤ n) : Off c w (w1.setCell ⟨n, i, none⟩ v) :=
  ⟨by simpa [World.setCell] using h.size, fun k hk hc => (Below.heap_setCell _ _ _ _ (by show k ≠ n; omega)).trans (h.keep k hk hc), fun B hB hs => (h.low B hB hs).setCell (Nat.le_trans hs hn) _⟩
theorem put_is {w : World} {b c a x : Nat} {m : M} (h : Room w b c m) (ha : a < 4294967296) :
    Calls Try.prog 46 #[bus b, .int .u32 a, .int .u32 x] w fun e w' => e = .returned (trap (putF m a x).2.1 (putF m a x).2.2) ∧ Off c w w' ∧ Room w' b c (after m a x (putF m a x).1) := by
  unfold putF
  by_cases h4 : a % 4 = 0
  · rw [if_pos h4]
    have hz : ∀ y : Nat, y % 256 < 256 := fun y => Nat.mod_lt _ (by decide)
    have H := put_any (P := PutP w b c (after m a x)) (p0 := canS m a) (p1 := canS m (up a 1)) (p2 := canS m (up a 2)) (p3 := canS m (up a 3)) (rem4 h4) (dk_zero ha) (up_u32 a 1) (up_u32 a 2) (up_u32 a 3)
      ⟨.of (Go.Joins.below_alloc1 _ _), h.keep (Go.Joins.below_alloc1 _ _), slot_new w⟩ (fun j w1 q => q.slot) rfl rfl rfl rfl
      (store_go (ms := after m a x) (j := 0) h.cl rfl (hz x)) (store_stop (ms := after m a x) (j := 0)) (store_go (ms := after m a x) (j := 1) h.cl rfl (hz (x / 256))) (store_stop (ms := after m a x) (j := 1))
      (store_go (ms := after m a x) (j := 2) h.cl rfl (hz (x / 65536))) (store_stop (ms := after m a x) (j := 2)) (store_go (ms := after m a x) (j := 3) h.cl rfl (hz (x / 16777216))) (store_stop (ms := after m a x) (j := 3))
    refine Calls.mono H ?_
    rintro e w' ⟨he, w1, u, v, hp, rfl⟩
    refine ⟨he, (hp.off.own (Nat.le_refl _)).own (Nat.le_refl _), ?_⟩
    have := h.bl; have := h.cl
    exact (hp.room.other (by omega) (by omega)).other (by omega) (by omega)
  · rw [if_neg h4]
    exact (put_bad (rem4' h4)).mono fun e w' ⟨he, hb⟩ => ⟨he, .of hb, h.keep hb⟩
end Go.Proofs.Ytopadiofanaaiaa.CpuLaw
