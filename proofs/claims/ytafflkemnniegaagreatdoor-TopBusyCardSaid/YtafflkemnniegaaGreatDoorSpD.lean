/- The walks of space: add, span, at any memory. The walks of space: span, Map, at any memory. -/
import Derived.Test.YtafflkemnniegaaGreatDoorSpB
namespace Go.Proofs.YtafflkemnniegaaGreatDoor
open Go.RowKit Go.Maps
set_option linter.unusedVariables false
set_option linter.unusedSimpArgs false
def appP := Builtin.append_ #[222, 222] 222
theorem appP_eq : Builtin.append_ #[222, 222] 222 = appP := rfl
theorem infoPg : (Tryz.prog.info? 232).map (fun i => (i.zero, i.size, i.bytes)) = some (some (.pointer none), 1, 8) := by kernel_rfl
/-- sixteen bytes -/
def by16 (d : Nat → Int) : Array Value := #[.int .u8 (d 0), .int .u8 (d 1), .int .u8 (d 2), .int .u8 (d 3), .int .u8 (d 4), .int .u8 (d 5), .int .u8 (d 6), .int .u8 (d 7), .int .u8 (d 8), .int .u8 (d 9), .int .u8 (d 10), .int .u8 (d 11), .int .u8 (d 12), .int .u8 (d 13), .int .u8 (d 14), .int .u8 (d 15)]
def pgA (d : Nat → Int) : Array Value := #[.int .u8 (d 0), .int .u8 (d 1), .int .u8 (d 2), .int .u8 (d 3), .int .u8 (d 4), .int .u8 (d 5), .int .u8 (d 6), .int .u8 (d 7), .int .u8 (d 8), .int .u8 (d 9), .int .u8 (d 10), .int .u8 (d 11), .int .u8 (d 12), .int .u8 (d 13), .int .u8 (d 14), .int .u8 (d 15), .int .i64 1, .bool false, .int .i64 0]
theorem ld_16 (v : Value) : Instr.loadAt 237 v = ldR 237 v := rfl
theorem bd_pg (ps : Array (Nat × Value)) : Instr.build 323 ps = bdR 323 ps := rfl
theorem bd_pg_run (w : World) (d : Nat → Int) : (bdR 323 #[(0, .agg (by16 d)), (1, .int .i64 1)]).run Tryz.prog w = .ok (.agg (pgA d)) w := by kernel_rfl
theorem pg_new (w : World) (d : Nat → Int) : PgAt (w.alloc (.cells (pgA d) 323)) w.heap.size d 1 false := by
  have hr := row_new w 323 (pgA d)
  refine ⟨hr.lt, fun j hj => ?_, by rw [hr.cell]; rfl, by rw [hr.cell]; rfl, ⟨0, by rw [hr.cell]; rfl⟩, hr.fz, ⟨_, hr⟩⟩
  rw [hr.cell]
  have : j = 0 ∨ j = 1 ∨ j = 2 ∨ j = 3 ∨ j = 4 ∨ j = 5 ∨ j = 6 ∨ j = 7 ∨ j = 8 ∨ j = 9 ∨ j = 10 ∨ j = 11 ∨ j = 12 ∨ j = 13 ∨ j = 14 ∨ j = 15 := by omega
  rcases this with rfl | rfl | rfl | rfl | rfl | rfl | rfl | rfl | rfl | rfl | rfl | rfl | rfl | rfl | rfl | rfl <;> rfl
def MS.ghost (m : MS) (g : Nat) (d : Nat → Int) (u : Int) (q : Bool) : MS := { m with d := fup m.d g d, u := fup m.u g u, h := fup m.h g q }
/-- the state with a page more, in a frame -/
def MS.add (m : MS) (v : Value) (g : Nat) (d : Nat → Int) : MS := { m with pv := v, pl := m.pl ++ [g], d := fup m.d g d, u := fup m.u g 1, h := fup m.h g true }
section
variable {w w' : World} {M so g : Nat} {fr sl : Int} {m : MS}
theorem MemG.ghost (h : MemG w M so fr sl m) (hg : ¬ g ∈ m.pl) (d : Nat → Int) (u : Int) (q : Bool) : MemG w M so fr sl (m.ghost g d u q) := by
  refine ⟨h.m0, h.m1, h.m2, h.m3, h.m4, h.mz, h.mlt, h.ps, h.om, h.im, fun j hj => ?_, h.n1, h.n2, h.n3, h.n4, h.n5, h.nd⟩
  have e : j ≠ g := fun e => hg (e ▸ hj)
  simp only [MS.ghost, fup_off _ _ e]
  exact h.pg j hj
theorem pp_push (l : List Nat) (g : Nat) : pp l ++ [.pointer (some ⟨g, 0, none⟩)] = pp (l ++ [g]) := by simp [pp]
theorem countP_ghost (l : List Nat) (h : Nat → Bool) (g : Nat) (hg : ¬ g ∈ l) : (l ++ [g]).countP (fup h g false) = l.countP h := by
  rw [List.countP_append]
  have e : l.countP (fup h g false) = l.countP h := by
    rw [List.countP_eq_length_filter, List.countP_eq_length_filter]
    congr 1
    refine List.filter_congr fun x hx => ?_
    rw [fup_off _ _ (fun e => hg (by rw [← e]; exact hx))]
  rw [e]
  simp [fup_same]
attribute [local go_sem ↓] ld_16 bd_pg appP_eq
set_option maxRecDepth 100000 in
set_option maxHeartbeats 1000000 in
theorem addPg_is (h : MemG w M so fr sl m) (d : Nat → Int) (hc : (m.pl.countP m.h : Int) < fr) (hl : m.pl.length < 100000) : Calls Tryz.prog 103 #[.pointer (some ⟨M, 0, none⟩), .agg (by16 d)] w fun e w' => ∃ g v, e = .returned (.pointer (some ⟨g, 0, none⟩)) ∧ w.heap.size ≤ g ∧ MemG w' M so fr sl (m.add v g d) ∧ (v.ownBlock = m.pv.ownBlock ∨ ∃ b, w.heap.size ≤ b ∧ v.ownBlock = some b) ∧ Upd (fun k => k = M ∨ m.pv.ownBlock = some k) w w' := by
  have hb1 := Go.Joins.below_alloc1 w (.cells (by16 d) 237)
  have hr1 := row_new w 237 (by16 d)
  have hl1 := hr1.ld0 Tryz.underlying237 rfl (by kernel_rfl)
  have hbd := fun w => bd_pg_run w d
  obtain ⟨W1, hW1⟩ : ∃ W1, W1 = w.alloc (.cells (by16 d) 237) := ⟨_, rfl⟩
  rw [← hW1] at hb1 hl1
  have hs1 : w.heap.size < W1.heap.size := by rw [hW1]; simp
  have hb2 := Go.Joins.below_alloc1 W1 (.cells (pgA d) 323)
  have hp2 := pg_new W1 d
  obtain ⟨W2, hW2⟩ : ∃ W2, W2 = W1.alloc (.cells (pgA d) 323) := ⟨_, rfl⟩
  rw [← hW2] at hb2 hp2
  have hb02 : Below w.heap.size w W2 := hb1.trans (hb2.mono hb1.size)
  have hb3 := Go.Joins.below_alloc1 W2 (.cells #[.pointer (some ⟨W1.heap.size, 0, none⟩)] 232)
  have h2 := h.keep hb02
  have h3 := h2.keep hb3
  obtain ⟨i0, hi5, hz0, hz1, hz2⟩ := info_parts infoPg
  have hng : ¬ W1.heap.size ∈ m.pl := fun q => by have := h.lt (.inr (.inr (.inr (.inr q)))); omega
  obtain ⟨v, w4, hap, own, gr, hv⟩ := run_append_fresh (P := Tryz.prog) (W2.alloc (.cells #[.pointer (some ⟨W1.heap.size, 0, none⟩)] 232)) 0 222 222 232 i0 (.pointer none) 1 8 Tryz.underlying222 hi5 hz0 hz1 hz2 rfl (by decide) m.pv m.pl.length _ h3.ps ⟨W2.heap.size, 0, none⟩ 1 1 [.pointer (some ⟨W1.heap.size, 0, none⟩)] rfl (cells_new W2 [.pointer (some ⟨W1.heap.size, 0, none⟩)] 232) (by simp [Value.oneCell']) (by unfold maxLen; omega) (by omega) (by omega)
  rw [appP_eq] at hap
  rw [pp_push] at own
  have hs3 : w.heap.size ≤ (W2.alloc (.cells #[.pointer (some ⟨W1.heap.size, 0, none⟩)] 232)).heap.size := Nat.le_trans hb02.size hb3.size
  have hv' : v.ownBlock = m.pv.ownBlock ∨ ∃ b, w.heap.size ≤ b ∧ v.ownBlock = some b := by
    rcases hv with e | ⟨b, e1, e2⟩
    · exact .inl e
    · exact .inr ⟨b, by omega, e2⟩
  have hu4 : Upd (fun k => m.pv.ownBlock = some k) w w4 := (Upd.below (hb02.trans (hb3.mono hb02.size))).trans (Upd.grown0 gr (fun b e _ => e))
  have hp4 : PgAt w4 W1.heap.size d 1 false := (hp2.keep hb3).upd (Upd.grown0 gr (S := fun k => m.pv.ownBlock = some k) (fun b e _ => e)) (fun q => by have := h.lt (.inr (.inr (.inl q))); omega)
  have hvn : v.ownBlock ≠ some W1.heap.size := fun q => by
    rcases hv with e | ⟨b, e1, e2⟩
    · rw [q] at e; have := h.lt (.inr (.inr (.inl e.symm))); omega
    · rw [e2] at q; injection q with q; have := hb3.size; have := hp2.lt; omega
  have hm4 := (h.ghost hng d 1 false).pages (w1 := w4) (v := v) (pl' := m.pl ++ [W1.heap.size]) hu4 (fun k hk => hk) (by simpa using own) hv' (fun j hj => by
    rcases List.mem_append.1 hj with q | q
    · exact .inl q
    · simp at q
      subst q
      refine .inr ⟨by omega, hvn, ?_⟩
      simp only [MS.ghost, fup_same]
      exact hp4) (by
    rw [List.nodup_append]
    refine ⟨h.nd, by simp, fun a ha b hb e => ?_⟩
    simp at hb
    subst hb
    exact hng (e ▸ ha))
  have hu5 : Upd (fun k => k = M ∨ m.pv.ownBlock = some k) w (w4.setCell ⟨M, 3, none⟩ v) := (hu4.mono (fun _ _ e => .inr e)).trans (Upd.set _ _ (.inl rfl))
  have HAS := Lib.hid (askG_is hm4 (g := W1.heap.size) (by simp) (.inr (by
    show (((m.pl ++ [W1.heap.size]).countP (fup m.h W1.heap.size false) : Nat) : Int) < fr
    rw [countP_ghost _ _ _ hng]; exact hc)))
  have hg5 : ∀ X : MS, X = { ({ (m.ghost W1.heap.size d 1 false) with pv := v, pl := m.pl ++ [W1.heap.size] } : MS) with h := fup (fup m.h W1.heap.size false) W1.heap.size true } → X = m.add v W1.heap.size d := fun X e => by
    rw [e]
    have e2 : fup (fup m.h W1.heap.size false) W1.heap.size true = fup m.h W1.heap.size true := by
      funext k
      unfold fup
      split <;> rfl
    simp only [MS.add, MS.ghost, e2]
  have HG5 := Lib.hid hg5
  have HV := Lib.hid hv'
  have HU5 := Lib.hid hu5
  have HL : Hid (w.heap.size ≤ W1.heap.size) := Lib.hid (by omega)
  obtain ⟨p, cap, hvf⟩ := own_form own
  have m3 := h2.m3
  have m3b := h3.m3
  have m3y := (gr : World.grownBy _ _ _)
  have m3c : ∃ u, w4.cell? ⟨M, 3, none⟩ = some u := ⟨_, (hu4.cell h.mlt (fun q => (h.n2 M q).1 rfl)).trans h.m3⟩
  obtain ⟨u3, m3c⟩ := m3c
  have m3z : w4.frozen? ⟨M, 3, none⟩ = false := (hu4.frozen h.mlt (fun q => (h.n2 M q).1 rfl)).trans (h.mz 3)
  clear h h2 h3 hb1 hb2 hb3 hb02 hr1 hp2 hng hi5 hz0 hz1 hz2 own gr hv hv' hu4 hp4 hvn hm4 hu5 hg5 hs3 hs1 hc m3y
  go_enter Tryz.func103, Tryz.ntmps103
  go_upto_region 1 with fail
  rw [← hW1]
  have HW2 := Lib.hid hW2
  clear hW1 hW2
  go_upto_region 2 with fail
  rw [← HW2.out]
  clear HW2 hbd hl1
  subst hvf
  go_wp2_with (go_at_call 185; refine HAS.out.mono ?_; rintro e1 w1 ⟨rfl, hm1, hu1⟩; have HM1 := Lib.hid hm1; have HU1 := Lib.hid hu1; clear hm1 hu1)
  go_ret
  exact ⟨_, _, rfl, HL.out, by rw [← HG5.out _ rfl]; exact HM1.out, HV.out, HU5.out.trans' HU1.out (fun k hk e => by
    rcases e with e | e
    · exact .inl e
    · have := HL.out; omega)⟩
end
end Go.Proofs.YtafflkemnniegaaGreatDoor
namespace Go.Proofs.YtafflkemnniegaaGreatDoor
open Go.RowKit Go.Maps
set_option linter.unusedVariables false
set_option linter.unusedSimpArgs false
/-- what a memory is behind new pages of a space -/
structure Grew (B0 : Nat) (m m' : MS) (b : Nat) (first r : Int) (new : List Nat) : Prop where
  pl : m'.pl = m.pl ++ new
  nw : ∀ g, g ∈ new → B0 ≤ g
  S : m'.S = m.S
  nS : m'.nS = m.nS
  F : m'.F = fup m.F b (fun k => if first ≤ k ∧ k < first + new.length then (new[(k - first).toNat]?).map (fun g => (g, r)) else m.F b k)
  nF : m'.nF = fup m.nF b (m.nF b + new.length)
  old : ∀ g, ¬ g ∈ new → m'.d g = m.d g ∧ m'.u g = m.u g ∧ m'.h g = m.h g
  nd : ∀ g, g ∈ new → m'.d g = (fun _ => 0) ∧ m'.u g = 1 ∧ m'.h g = true
  pv : m'.pv.ownBlock = m.pv.ownBlock ∨ ∃ x, B0 ≤ x ∧ m'.pv.ownBlock = some x
theorem Grew.start (B0 : Nat) (m : MS) (b : Nat) (first r : Int) : Grew B0 m m b first r [] := by
  refine ⟨by simp, fun g hg => (by cases hg), rfl, rfl, ?_, ?_, fun g _ => ⟨rfl, rfl, rfl⟩, fun g hg => (by cases hg), .inl rfl⟩
  · rw [fup_id]
    funext k
    rw [if_neg (fun q => by have := q.1; have q2 := q.2; simp at q2; omega)]
  · rw [fup_id]; simp
section
variable {w w' wr : World} {M so g b : Nat} {fr sl : Int} {m m' : MS} {first r : Int} {new : List Nat}
theorem Grew.count {B0 : Nat} (h : Grew B0 m m' b first r new) (hB : ∀ g, g ∈ m.pl → g < B0) : m'.pl.countP m'.h = m.pl.countP m.h + new.length := by
  rw [h.pl, List.countP_append]
  congr 1
  · rw [List.countP_eq_length_filter, List.countP_eq_length_filter]
    congr 1
    refine List.filter_congr fun x hx => ?_
    rw [(h.old x (fun q => by have := h.nw x q; have := hB x hx; omega)).2.2]
  · rw [List.countP_eq_length_filter, List.filter_eq_self.2 (fun x hx => (h.nd x hx).2.2)]
set_option maxRecDepth 100000 in
set_option maxHeartbeats 400000 in
theorem spanG_is (h : MemG w M so fr sl m) {s a n r : Int} (hs : m.S s = some b) (hwf : (Lit.int .i64 s).wf = true) (ha : 0 ≤ a) (ha' : a < 64) (hn : 1 ≤ n) (hn' : n ≤ 64 - a) (hr : 0 ≤ r) (hr' : r ≤ 7) : Calls Tryz.prog 100 #[.pointer (some ⟨M, 0, none⟩), .int .i64 s, .int .i64 a, .int .i64 n, .int .i64 r] w fun e w' => e = .returned (.int .i64 0) ∧ w = w' := by
  have m4 := h.m4
  have l1 := h.om.look hwf
  rw [hs] at l1
  change _ = Result.ok (Value.map (some b)) w at l1
  have l2 := map_no_nil w b
  have i0 : ¬ a < 0 := by omega
  have i1 : ¬ (64 : Int) ≤ a := by omega
  have i2 : ¬ n < 1 := by omega
  have i3 : ¬ 64 - a < n := by omega
  have i4 : ¬ r < 0 := by omega
  have i5 : ¬ (7 : Int) < r := by omega
  have y0 : IntKind.i64.wrap (64 - a) = 64 - a := IntWalk.i64_in _ (by omega)
  clear h hs hwf
  go_enter Tryz.func100, Tryz.ntmps100
  go_wp2_with fail
  go_ret
  exact ⟨rfl, rfl⟩
theorem by_zero (w : World) : (bdR 237 #[]).run Tryz.prog w = .ok (.agg (by16 fun _ => 0)) w := by kernel_rfl
theorem bd_16 (ps : Array (Nat × Value)) : Instr.build 237 ps = bdR 237 ps := rfl
/-- one page more -/
theorem Grew.next {B0 : Nat} (h : Grew B0 m m' b first r new) {v : Value} (hg : B0 ≤ g) (hv : v.ownBlock = m'.pv.ownBlock ∨ ∃ x, B0 ≤ x ∧ v.ownBlock = some x) (hng : ¬ g ∈ new) :
    Grew B0 m { (m'.add v g (fun _ => 0)) with nF := fup m'.nF b (m'.nF b + 1), F := fup m'.F b (fun j => if j = first + new.length then some (g, r) else m'.F b j) } b first r (new ++ [g]) := by
  refine ⟨by show m'.pl ++ [g] = _; rw [h.pl, List.append_assoc], fun x hx => ?_, h.S, h.nS, ?_, ?_, fun x hx => ?_, fun x hx => ?_, ?_⟩
  · rcases List.mem_append.1 hx with q | q
    · exact h.nw x q
    · simp at q; omega
  · show fup m'.F b _ = _
    rw [h.F]
    funext k
    unfold fup
    by_cases hk : k = b
    · simp only [if_pos hk]
      funext j
      by_cases e : j = first + (new.length : Int)
      · subst e
        rw [if_pos rfl, if_pos (by simp; omega), show (first + (new.length : Int) - first).toNat = new.length by omega]
        simp
      · rw [if_neg e]
        by_cases e2 : first ≤ j ∧ j < first + (new.length : Int)
        · rw [if_pos trivial, if_pos e2, if_pos (by simp; omega), List.getElem?_append_left (by omega)]
        · rw [if_pos trivial, if_neg e2, if_neg (by simp; omega)]
    · simp only [if_neg hk]
  · show fup m'.nF b _ = _
    rw [h.nF]
    funext k
    unfold fup
    by_cases hk : k = b
    · simp [hk]; omega
    · simp [hk]
  · have h1 : ¬ x ∈ new := fun q => hx (List.mem_append.2 (.inl q))
    have h2 : x ≠ g := fun q => hx (List.mem_append.2 (.inr (by simp [q])))
    show fup m'.d g _ x = _ ∧ fup m'.u g _ x = _ ∧ fup m'.h g _ x = _
    rw [fup_off _ _ h2, fup_off _ _ h2, fup_off _ _ h2]
    exact h.old x h1
  · show fup m'.d g _ x = _ ∧ fup m'.u g _ x = _ ∧ fup m'.h g _ x = _
    by_cases h2 : x = g
    · subst h2; exact ⟨fup_same _ _ _, fup_same _ _ _, fup_same _ _ _⟩
    · rw [fup_off _ _ h2, fup_off _ _ h2, fup_off _ _ h2]
      rcases List.mem_append.1 hx with q | q
      · exact h.nd x q
      · simp at q; exact absurd q h2
  · show v.ownBlock = m.pv.ownBlock ∨ ∃ x, B0 ≤ x ∧ v.ownBlock = some x
    rcases hv with q | q
    · rw [q]; exact h.pv
    · exact .inr q
theorem encE_some (g : Nat) (r : Int) : encE (some (g, r)) = .agg #[.pointer (some ⟨g, 0, none⟩), .int .i64 r] := rfl
/-- while pages are added -/
structure Adds (w : World) (m : MS) (M so : Nat) (fr sl : Int) (b : Nat) (first r : Int) (wr : World) (m' : MS) (new : List Nat) : Prop where
  mem : MemG wr M so fr sl m'
  gr : Grew w.heap.size m m' b first r new
  hu : Upd (mB M so m) w wr
theorem Adds.keep (h : Adds w m M so fr sl b first r wr m' new) (hb : Below wr.heap.size wr w') : Adds w m M so fr sl b first r w' m' new := ⟨h.mem.keep hb, h.gr, h.hu.trans (Upd.below hb)⟩
theorem Adds.next (h : Adds w m M so fr sl b first r wr m' new) (h0 : MemG w M so fr sl m) {s : Int} (hs : m.S s = some b) {w1 w2 : World} {v : Value} (hm : MemG w1 M so fr sl (m'.add v g (fun _ => 0))) (hg : wr.heap.size ≤ g) (hv : v.ownBlock = m'.pv.ownBlock ∨ ∃ x, wr.heap.size ≤ x ∧ v.ownBlock = some x) (hu : Upd (fun k => k = M ∨ m'.pv.ownBlock = some k) wr w1)
    (hi : IMap w2 b (m'.nF b + 1) (fun j => if j = first + new.length then some (g, r) else m'.F b j)) (hg2 : w1.grownBy w2 (some b)) : ∃ m'', Adds w m M so fr sl b first r w2 m'' (new ++ [g]) := by
  have hs' : (m'.add v g (fun _ => 0)).S s = some b := by show m'.S s = _; rw [h.gr.S]; exact hs
  have hsz := h.hu.size
  have hng : ¬ g ∈ new := fun q => by
    have := h.mem.lt (.inr (.inr (.inr (.inr (by rw [h.gr.pl]; exact List.mem_append.2 (.inr q))))))
    omega
  have hub := Upd.grown hg2 (S := fun k => k = b) rfl
  have hlt0 : b < w.heap.size := h0.lt (.inr (.inr (.inr (.inl ⟨s, hs⟩))))
  refine ⟨_, hm.space hs' hub hi, h.gr.next (by omega) ?_ hng, ?_⟩
  · rcases hv with q | ⟨x, q1, q2⟩
    · exact .inl q
    · exact .inr ⟨x, by omega, q2⟩
  · refine (h.hu.trans' hu (fun k hk e => ?_)).trans' hub (fun k hk e => .inr (.inr (.inr (.inl ⟨s, by rw [hs, e]⟩))))
    rcases e with e | e
    · exact .inl e
    · rcases h.gr.pv with q | ⟨x, q1, q2⟩
      · exact .inr (.inr (.inl (by rw [← q]; exact e)))
      · rw [q2] at e; injection e with e; omega
theorem add_more (h : Adds w m M so fr sl b first r wr m' new) (h0 : MemG w M so fr sl m) (hc : (m.pl.countP m.h : Int) + new.length < fr) (hl : m.pl.length + new.length < 100000) : Calls Tryz.prog 103 #[.pointer (some ⟨M, 0, none⟩), .agg (by16 fun _ => 0)] wr fun e w' => ∃ g v, e = .returned (.pointer (some ⟨g, 0, none⟩)) ∧ wr.heap.size ≤ g ∧ MemG w' M so fr sl (m'.add v g (fun _ => 0)) ∧ (v.ownBlock = m'.pv.ownBlock ∨ ∃ b, wr.heap.size ≤ b ∧ v.ownBlock = some b) ∧ Upd (fun k => k = M ∨ m'.pv.ownBlock = some k) wr w' := by
  have := h.gr.count (fun g hg => h0.lt (.inr (.inr (.inr (.inr hg)))))
  exact addPg_is h.mem _ (by omega) (by rw [h.gr.pl, List.length_append]; omega)
theorem adds_put {w1 : World} {v : Value} {s : Int} (hm : MemG w1 M so fr sl (m'.add v g (fun _ => 0))) (hs : m'.S s = some b) {i : Int} (hi : (Lit.int .i64 i).wf = true) (hn : m'.nF b < 100000) : ∃ w', (Instr.mapUpdate 225 (.map (some b)) (.int .i64 i) (.agg #[.pointer (some ⟨g, 0, none⟩), .int .i64 r])).run Tryz.prog w1 = .ok () w' ∧ IMap w' b (m'.nF b + 1) (fun j => if j = i then some (g, r) else m'.F b j) ∧ w1.grownBy w' (some b) :=
  (hm.im s b hs).put hi (by show m'.nF b < _; unfold maxLen; omega) g r
theorem Adds.four (h : Adds w m M so fr sl b first r wr m' new) : wr.cell? ⟨M, 4, none⟩ = some (.map (some so)) := h.mem.m4
theorem Adds.look (h : Adds w m M so fr sl b first r wr m' new) {s : Int} (hs : m.S s = some b) (hwf : (Lit.int .i64 s).wf = true) : (Instr.lookup 221 (.map (some so)) (.int .i64 s) false).run Tryz.prog wr = .ok (.map (some b)) wr := by
  have l1 := h.mem.om.look hwf
  rw [h.gr.S, hs] at l1
  exact l1
attribute [local go_sem ↓] bd_16
set_option maxRecDepth 100000 in
set_option maxHeartbeats 1000000 in
theorem mapG_is (h : MemG w M so fr sl m) {s a r : Int} {n : Nat} (hs : m.S s = some b) (hwf : (Lit.int .i64 s).wf = true) (ha : 0 ≤ a) (hn : 1 ≤ n) (hn' : (n : Int) ≤ 64 - a) (hr : 0 ≤ r) (hr' : r ≤ 7) (hfree : ∀ k, k < n → m.F b (a + (k : Nat)) = none)
    (hf : 0 ≤ fr ∧ fr ≤ 1000) (hsl : 0 ≤ sl ∧ sl ≤ 1000) (hc : (m.pl.countP m.h : Int) + n ≤ fr) (hl : (m.pl.length : Int) + n ≤ fr + sl) (hnF : m.nF b < 10000) :
    Calls Tryz.prog 134 #[.pointer (some ⟨M, 0, none⟩), .int .i64 s, .int .i64 a, .int .i64 n, .int .i64 r] w fun e w' => e = .returned (.int .i64 0) ∧ ∃ m' new, new.length = n ∧ Adds w m M so fr sl b a r w' m' new := by
  have HSP := Lib.hid (spanG_is h hs hwf (a := a) (n := n) (r := r) ha (by omega) (by omega) hn' hr hr')
  have HM := Lib.hid h
  have HA : Hid (Adds w m M so fr sl b a r w m []) := Lib.hid ⟨h, Grew.start _ _ _ _ _, Upd.refl _ _⟩
  have HRO := Lib.hid (fun wr m' (q : Adds w m M so fr sl b a r wr m' []) => roomG_is q.mem n (by omega) hf hsl (by rw [q.gr.pl]; simp; omega))
  have HL := Lib.hid (And.intro hl (And.intro hc (And.intro hnF (And.intro hf.2 hsl.2))))
  have HF := Lib.hid hfree
  have HS := Lib.hid (And.intro hs hwf)
  have n64 : (n : Int) ≤ 64 := by omega
  have a64 : a ≤ 64 := by omega
  have a0 := ha
  have HN := Lib.hid hn'
  clear h hs hwf ha hn hn' hr hr' hfree hf hsl hc hl hnF
  go_enter Tryz.func134, Tryz.ntmps134
  go_upto_region 4 with (go_at_call 100; refine HSP.out.mono ?_; rintro e1 w1 ⟨rfl, rfl⟩)
  clear HSP
  go_wp2_with fail
  go_loopw [26] (fun kv wr => ∃ k : Nat, k ≤ n ∧ kv = .int .i64 k ∧ Hid (Adds w m M so fr sl b a r wr m [])) (fun kv _ => n - (intOf kv).toNat)
  case atStart => exact ⟨0, Nat.zero_le _, rfl, HA⟩
  case round =>
    clear HA
    obtain ⟨k, hk0, rfl, HS1⟩ := hrel
    by_cases hk : k < n
    · have i1 : (k : Int) < n := by omega
      have m4 := HS1.out.four
      have l1 := HS1.out.look HS.out.1 HS.out.2
      have y1 : IntKind.i64.wrap (a + (k : Int)) = a + k := IntWalk.i64_in _ (by omega)
      have l2 := (HS1.out.mem.im s b HS.out.1).look_ok (k := a + k) (WalkArith.wf_i64 (by omega))
      rw [HF.out k hk] at l2
      change _ = Result.ok (Value.tuple #[.agg #[.pointer none, .int .i64 0], .bool false]) wr at l2
      have HK := Lib.hid (HS1.out.keep (Go.Joins.below_alloc1 wr (.cells #[.pointer none, .int .i64 0] 234)))
      clear HS1
      go_wp2_with fail
      go_roundw
      case rel => exact ⟨k + 1, by omega, by go_num, HK⟩
      case measure => simp [intOf]; omega
    · obtain rfl : k = n := by omega
      have HRO2 := Lib.hid (HRO.out wr m HS1.out)
      rw [show decide ((k : Int) ≤ fr + sl - m.pl.length) = true by simp; have := HL.out.1; omega] at HRO2
      go_upto_region 13 with (go_at_call 102; refine HRO2.out.mono ?_; rintro e2 w2 ⟨rfl, hb2⟩)
      have HS2 := Lib.hid (HS1.out.keep hb2)
      clear HS1 HRO HRO2 hb2
      go_wp2_with fail
      go_loopw [49] (fun jv wr => ∃ j m' new, j ≤ k ∧ jv = .int .i64 (j : Nat) ∧ Hid (new.length = j ∧ Adds w m M so fr sl b a r wr m' new)) (fun jv _ => k - (intOf jv).toNat)
      case atStart => exact ⟨0, m, [], Nat.zero_le _, rfl, Lib.hid ⟨rfl, HS2.out⟩⟩
      case round =>
        clear HS2
        obtain ⟨j, m', new, hj0, rfl, HS3⟩ := hrel
        by_cases hj : j < k
        · have i1 : (j : Int) < k := by omega
          have HS4 := Lib.hid (HS3.out.2.keep (w' := wr.drew) (Below.refl _ _).drew)
          have HADD := Lib.hid (add_more HS4.out HM.out (by have := HL.out.2.1; have := HS3.out.1; omega) (by have := HS3.out.1; have := HL.out.2.2.2; have := HL.out.1; omega))
          have HWF : Hid ((Lit.int .i64 (a + (j : Int))).wf = true) := Lib.hid (WalkArith.wf_i64 (by omega))
          have HE : Hid (a + (j : Int) = a + (new.length : Int)) := Lib.hid (by rw [HS3.out.1])
          have HNF : Hid (m'.nF b < 100000) := Lib.hid (by rw [HS3.out.2.gr.nF, fup_same]; have := HL.out.2.2.1; have := HS3.out.1; omega)
          have y1 : IntKind.i64.wrap (a + (j : Int)) = a + j := IntWalk.i64_in _ (by omega)
          have hbz := by_zero
          have HJ : Hid (new.length = j) := Lib.hid HS3.out.1
          have HS0 := Lib.hid (And.intro HS4.out.four (HS4.out.look HS.out.1 HS.out.2))
          have HSS : Hid (m'.S s = some b) := Lib.hid (by rw [HS4.out.gr.S]; exact HS.out.1)
          clear HS3
          go_upto_region 16 with fail
          go_region_held3 (fun wx => wx.cell? ⟨M, 4, none⟩ = some (.map (some so)) ∧ (Instr.lookup 221 (.map (some so)) (.int .i64 s) false).run Tryz.prog wx = .ok (.map (some b)) wx) (first | assumption | exact HS0.out | exact hS4.out | exact Hid.out ‹_› | go_keep)
            ((go_at_call 103; (with_reducible refine HADD.out.mono ?_); rintro e3 w3 ⟨g3, v3, rfl, hg3, hm3, hv3, hu3⟩; obtain ⟨w4, hup, hi4, hgr4⟩ := adds_put hm3 HSS.out HWF.out HNF.out; obtain ⟨m5, hN⟩ := HS4.out.next HM.out HS.out.1 hm3 hg3 hv3 hu3 (by rw [← HE.out]; exact hi4) hgr4; have HN5 := Lib.hid hN; have hS : w3.cell? ⟨M, 4, none⟩ = some (.map (some so)) ∧ (Instr.lookup 221 (.map (some so)) (.int .i64 s) false).run Tryz.prog w3 = .ok (.map (some b)) w3 := ⟨hm3.m4, by have l1 := hm3.om.look HS.out.2; rw [show (m'.add v3 g3 (fun _ => 0)).S s = some b from HSS.out] at l1; exact l1⟩; have hS4 := Lib.hid (And.intro HN5.out.four (HN5.out.look HS.out.1 HS.out.2)); clear hm3 hg3 hv3 hu3 hi4 hgr4 hN))
          all_goals clear hup hS
          · go_wp2_with fail
            go_roundw
            case rel => exact ⟨j + 1, m5, _, by omega, by go_num, Lib.hid ⟨by rw [List.length_append, HJ.out]; rfl, HN5.out⟩⟩
            case measure => simp [intOf]; omega
          · go_wp2_with fail
            go_roundw
            case rel => exact ⟨j + 1, m5, _, by omega, by go_num, Lib.hid ⟨by rw [List.length_append, HJ.out]; rfl, HN5.out⟩⟩
            case measure => simp [intOf]; omega
        · obtain rfl : j = k := by omega
          go_wp2_with fail
          go_ret
          exact ⟨rfl, _, _, HS3.out.1, HS3.out.2⟩
end
end Go.Proofs.YtafflkemnniegaaGreatDoor
