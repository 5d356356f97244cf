/- The walk of space's add. -/
import Derived.Test.YtopadiofanaaiaaDoorSpaceHalf
namespace Go.Proofs.YtopadiofanaaiaaDoor
open Go.RowKit Go.Maps
set_option linter.unusedVariables false
set_option linter.unusedSimpArgs false
def app39 := Builtin.append_ #[39, 39] 39
theorem app39_eq : Builtin.append_ #[39, 39] 39 = app39 := rfl
theorem info44 : (Tryd.prog.info? 44).map (fun i => (i.zero, i.size, i.bytes)) = some (some (.pointer none), 1, 8) := by kernel_rfl
def zs16 : List Value := [.int .u8 0, .int .u8 0, .int .u8 0, .int .u8 0, .int .u8 0, .int .u8 0, .int .u8 0, .int .u8 0, .int .u8 0, .int .u8 0, .int .u8 0, .int .u8 0, .int .u8 0, .int .u8 0, .int .u8 0, .int .u8 0]
def zero16 : Value := .agg #[.int .u8 0, .int .u8 0, .int .u8 0, .int .u8 0, .int .u8 0, .int .u8 0, .int .u8 0, .int .u8 0, .int .u8 0, .int .u8 0, .int .u8 0, .int .u8 0, .int .u8 0, .int .u8 0, .int .u8 0, .int .u8 0]
/-- the world with the argument's box and the page's block -/
def paged (w : World) : World := (w.alloc (.cells #[.int .u8 0, .int .u8 0, .int .u8 0, .int .u8 0, .int .u8 0, .int .u8 0, .int .u8 0, .int .u8 0, .int .u8 0, .int .u8 0, .int .u8 0, .int .u8 0, .int .u8 0, .int .u8 0, .int .u8 0, .int .u8 0] 50)).alloc (.cells #[.int .u8 0, .int .u8 0, .int .u8 0, .int .u8 0, .int .u8 0, .int .u8 0, .int .u8 0, .int .u8 0, .int .u8 0, .int .u8 0, .int .u8 0, .int .u8 0, .int .u8 0, .int .u8 0, .int .u8 0, .int .u8 0, .int .i64 1, .bool false, .int .i64 0] 59)
theorem paged_size (w : World) : (paged w).heap.size = w.heap.size + 2 := by simp [paged]
theorem paged_below (w : World) : Below w.heap.size w (paged w) := ((Below.refl _ _).alloc (Nat.le_refl _) _).alloc (by simp) _
theorem frozen_new (w : World) (l : Array Value) (T : TypeId) (j : Nat) : (w.alloc (.cells l T)).frozen? ⟨w.heap.size, j, none⟩ = false := by
  exact World.frozen?_alloc_new w l T j
theorem paged_fresh (w : World) : Fresh (paged w) (w.heap.size + 1) := by
  have hh := has_new (w.alloc (.cells #[.int .u8 0, .int .u8 0, .int .u8 0, .int .u8 0, .int .u8 0, .int .u8 0, .int .u8 0, .int .u8 0, .int .u8 0, .int .u8 0, .int .u8 0, .int .u8 0, .int .u8 0, .int .u8 0, .int .u8 0, .int .u8 0] 50)) [.int .u8 0, .int .u8 0, .int .u8 0, .int .u8 0, .int .u8 0, .int .u8 0, .int .u8 0, .int .u8 0, .int .u8 0, .int .u8 0, .int .u8 0, .int .u8 0, .int .u8 0, .int .u8 0, .int .u8 0, .int .u8 0, .int .i64 1, .bool false, .int .i64 0] 59
  have hf := frozen_new (w.alloc (.cells #[.int .u8 0, .int .u8 0, .int .u8 0, .int .u8 0, .int .u8 0, .int .u8 0, .int .u8 0, .int .u8 0, .int .u8 0, .int .u8 0, .int .u8 0, .int .u8 0, .int .u8 0, .int .u8 0, .int .u8 0, .int .u8 0] 50)) #[.int .u8 0, .int .u8 0, .int .u8 0, .int .u8 0, .int .u8 0, .int .u8 0, .int .u8 0, .int .u8 0, .int .u8 0, .int .u8 0, .int .u8 0, .int .u8 0, .int .u8 0, .int .u8 0, .int .u8 0, .int .u8 0, .int .i64 1, .bool false, .int .i64 0] 59
  rw [World.size_alloc] at hh hf
  refine ⟨hh.1, fun j hj => hh.2 j _ ?_, hh.2 16 _ rfl, hh.2 17 _ rfl, hh.2 18 _ rfl, hf⟩
  have : j = 0 ∨ j = 1 ∨ j = 2 ∨ j = 3 ∨ j = 4 ∨ j = 5 ∨ j = 6 ∨ j = 7 ∨ j = 8 ∨ j = 9 ∨ j = 10 ∨ j = 11 ∨ j = 12 ∨ j = 13 ∨ j = 14 ∨ j = 15 := by omega
  rcases this with rfl | rfl | rfl | rfl | rfl | rfl | rfl | rfl | rfl | rfl | rfl | rfl | rfl | rfl | rfl | rfl <;> rfl
theorem paged_eq (w : World) : (w.alloc (.cells #[.int .u8 0, .int .u8 0, .int .u8 0, .int .u8 0, .int .u8 0, .int .u8 0, .int .u8 0, .int .u8 0, .int .u8 0, .int .u8 0, .int .u8 0, .int .u8 0, .int .u8 0, .int .u8 0, .int .u8 0, .int .u8 0] 50)).alloc (.cells #[.int .u8 0, .int .u8 0, .int .u8 0, .int .u8 0, .int .u8 0, .int .u8 0, .int .u8 0, .int .u8 0, .int .u8 0, .int .u8 0, .int .u8 0, .int .u8 0, .int .u8 0, .int .u8 0, .int .u8 0, .int .u8 0, .int .i64 1, .bool false, .int .i64 0] 59) = paged w := rfl
theorem set_off {w : World} {b c i j : Nat} {x v : Value} (hj : j ≠ i) (h : w.cell? ⟨b, j, none⟩ = some v) : (w.setCell ⟨c, i, none⟩ x).cell? ⟨b, j, none⟩ = some v := by
  rw [World.cell?_setCell_other _ _ _ _ (by intro e; exact hj (by simpa using (congrArg Addr.off e).symm))]; exact h
theorem Mid.here {w : World} {M np g : Nat} {v : Value} {pg : Nat → Nat} (h : Mid w M v pg np g) (hnp : np < 8) (x : Int) (k : Nat) : Calls Tryd.prog 32 #[.pointer (some ⟨M, 0, none⟩)] (((w.setCell ⟨M, 2, none⟩ (.int .i64 x)).setCell ⟨g, 18, none⟩ (.int .i64 x)).drewN k) fun e w' => e = .returned (.int .i64 np) ∧ w' = ((w.setCell ⟨M, 2, none⟩ (.int .i64 x)).setCell ⟨g, 18, none⟩ (.int .i64 x)).drewN k := by
  have k0 : ∀ {b o u}, w.cell? ⟨b, o, none⟩ = some u → o ≠ 2 → o ≠ 18 → (((w.setCell ⟨M, 2, none⟩ (.int .i64 x)).setCell ⟨g, 18, none⟩ (.int .i64 x)).drewN k).cell? ⟨b, o, none⟩ = some u := fun hc h2 h18 => set_off h18 (set_off h2 hc)
  have hd : ∀ W : World, W.grownBy (W.drewN k) none := fun W => ⟨rfl, rfl, rfl, Nat.le_refl _, fun _ _ _ => rfl⟩
  have hps := owns_keep ((h.ps.kept (grown_set w M 2 (.int .i64 x)) (.inr h.vM)).kept (grown_set _ g 18 (.int .i64 x)) (.inr h.vg)) (below_drewN (Below.refl _ _) k)
  refine (here_is (k0 h.m3 (by decide) (by decide)) hps (fun i hi => k0 (h.hh i hi) (by decide) (by decide)) ?_ (by omega)).mono ?_
  · rw [more_new]
    exact k0 h.fr.hr (by decide) (by decide)
  · rintro e w' ⟨rfl, rfl⟩
    exact ⟨rfl, rfl⟩
theorem Turn.retag {t t' : Nat → Nat} {w w' : World} (h : Turn t w w') (e : ∀ b, b < w.heap.size → t b = t' b) : Turn t' w w' := ⟨h.os, h.tape, h.output, h.size, fun k hk h0 => h.block k hk ((e k hk).trans h0)⟩
section
variable {Z : Nat} {tag : Nat → Nat} {w : World} {M so im : Nat} {pv : Value} {pg : Nat → Nat} {np ns : Nat} {fs : Int → Option (Nat × Int)}
attribute [local go_sem ↓] app39_eq
set_option maxRecDepth 100000 in
set_option maxHeartbeats 1000000 in
theorem add_is (h : Half Z tag w M so im pv pg np ns fs) (hnp : np < 8) : Calls Tryd.prog 15 #[.pointer (some ⟨M, 0, none⟩), zero16] w fun e w' => e = .returned (.pointer (some ⟨w.heap.size + 1, 0, none⟩)) ∧ ∃ v, Half w'.heap.size (tagged tag (w.heap.size + 1) np v) w' M so im v (more pg np (w.heap.size + 1)) (np + 1) ns fs ∧ (∀ b, b < w.heap.size → tagged tag (w.heap.size + 1) np v b = tag b) ∧ Turn tag w w' := by
  have hb2 := paged_below w
  have hal := Go.Joins.below_alloc1 (paged w) (.cells #[.pointer (some ⟨w.heap.size + 1, 0, none⟩)] 44)
  have h2 := h.keep hb2
  have h3 := h2.keep hal
  have fr := (paged_fresh w).kept (row := none) (gb hal) (by simp)
  have htg : tag (w.heap.size + 1) = 0 := h.tz _ (by have := h.zle; omega)
  obtain ⟨i0, hi5, hz0, hz1, hz2⟩ := info_parts info44
  obtain ⟨v, w4, hap, own, gr, hv⟩ := run_append_fresh (P := Tryd.prog) ((paged w).alloc (.cells #[.pointer (some ⟨w.heap.size + 1, 0, none⟩)] 44)) 0 39 39 44 i0 (.pointer none) 1 8 Tryd.underlying39 hi5 hz0 hz1 hz2 rfl (by decide) pv np _ h3.ps ⟨(paged w).heap.size, 0, none⟩ 1 1 [.pointer (some ⟨w.heap.size + 1, 0, none⟩)] rfl (cells_new (paged w) [.pointer (some ⟨w.heap.size + 1, 0, none⟩)] 44) (by simp [Value.oneCell']) (by unfold maxLen; omega) (by omega) (by omega)
  rw [app39_eq] at hap
  have hmid := h3.mid fr htg gr own hv
  have HADD := Lib.hid (fun (x : Int) (q : Nat) (w' : World) => h3.added (w' := w') fr htg gr own hv x q)
  obtain ⟨a0, cap, rfl⟩ := own_form own
  have m3 : (paged w).cell? ⟨M, 3, none⟩ = some pv := h2.m3
  have m3y : ∃ u, w4.cell? ⟨M, 3, none⟩ = some u := ⟨_, (grown_cell gr h3.mlt (h3.own_ne (by rw [h3.tM]; decide))).trans h3.m3⟩
  have m3z : w4.frozen? ⟨M, 3, none⟩ = false := by have := hmid.mz 3; rwa [World.frozen?_setCell] at this
  obtain ⟨u3, m3y⟩ := m3y
  obtain ⟨ck, hck⟩ := hmid.m2
  have HT0 := Lib.hid (fun t => (Turn.of_below (tag := t) hb2).trans (Turn.of_below hal))
  have HSZ := Lib.hid (paged_size w)
  have HTZ := Lib.hid (show ∀ b, b < w.heap.size → b < ((paged w).alloc (.cells #[.pointer (some ⟨w.heap.size + 1, 0, none⟩)] 44)).heap.size ∧ b ≠ w.heap.size + 1 from fun b hb => ⟨by rw [World.size_alloc, paged_size]; omega, by omega⟩)
  have HNEW := Lib.hid (ask_new (n := np) (ck := ck) (ak := 0) hnp hmid.ne hmid.m0 hck hmid.mz hmid.fr.hr hmid.fr.ak hmid.fr.fz hmid.fr.lt hmid.mlt (fun x k => hmid.here hnp x k))
  clear h h2 h3 hb2 hal fr htg hi5 hz0 hz1 hz2 own gr hv hmid hck
  generalize hg : w.heap.size + 1 = g at *
  have HG := Lib.hid hg
  unfold zero16
  go_enter Tryd.func15, Tryd.ntmps15
  go_upto_region 2 with fail
  rw [paged_eq]
  (try rw [HG.out])
  clear hg
  generalize paged w = W at *
  go_wp2_with (go_at_call 22; refine HNEW.out.mono ?_; rintro e1 w1 ⟨rfl, x, q, hw1⟩; have HW1 := Lib.hid hw1; clear hw1)
  go_ret
  obtain ⟨h1, h2, h3, h4⟩ := HADD.out x q _ HW1.out
  have hag : ∀ b, b < w.heap.size → tagged tag g np (.slice a0 (np + 1) cap) b = tag b := fun b hb => h2 b (HTZ.out b hb).1 (HTZ.out b hb).2
  exact ⟨rfl, _, h1, hag, ((HT0.out _).trans h4).retag hag⟩
end
end Go.Proofs.YtopadiofanaaiaaDoor
