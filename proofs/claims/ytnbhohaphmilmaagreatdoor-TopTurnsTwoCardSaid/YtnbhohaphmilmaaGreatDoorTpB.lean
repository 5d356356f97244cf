/- The walks of space's let where a page has others, too; Unmap of such pages. The walk of space's Put. What rvPut makes of the memory; the walks of kernel.Space and kernel.Memory. -/
import Derived.Test.YtnbhohaphmilmaaGreatDoorSpG
import Derived.Test.YtnbhohaphmilmaaGreatDoorTpA
import Derived.Laws.CopyOwn
import Derived.Test.YtnbhohaphmilmaaGreatDoorKerG
namespace Go.Proofs.YtnbhohaphmilmaaGreatDoor
open Go.RowKit Go.Maps
set_option linter.unusedVariables false
set_option linter.unusedSimpArgs false
section
variable {w w' wr : World} {M so g b : Nat} {fr sl : Int} {m m' : MS}
theorem IMap.del {n : Nat} {f : Int → Option (Nat × Int)} {D : DataW Unit} {w2 : World} {k : Int} (ho : w2.ownsMap Tryz.prog 3 redE b n (D.del (.int .i64 k))) (hm : IsMap D) (hf : ∀ k, D.atKey (.int .i64 k) .nil = datE (f k) ∧ Maps.has D (.int .i64 k) = (f k).isSome) : IMap w2 b n (fun j => if j = k then none else f j) := by
  refine ⟨_, ho, hm.del _, fun j => ?_⟩
  by_cases e : j = k
  · subst e
    rw [atKey_del_same, has_del_same]
    simp [datE]
  · rw [atKey_del_other (lit_ne e), has_del_other (lit_ne e)]
    dsimp only
    rw [if_neg e]
    exact hf j
set_option maxRecDepth 100000 in
set_option maxHeartbeats 1000000 in
theorem letS_is (h : MemG w M so fr sl m) (hg : g ∈ m.pl) {u : Int} (hu : m.u g = u) (u2 : 2 ≤ u) (ub : u < 1000000) (r : Int) : Calls Tryz.prog 83 #[.pointer (some ⟨M, 0, none⟩), .agg #[.pointer (some ⟨g, 0, none⟩), .int .i64 r]] w fun e w' => e = .returned (.tuple #[]) ∧ MemG w' M so fr sl { m with u := fup m.u g (u - 1) } ∧ Upd (fun k => k = g) w w' := by
  have hal := Go.Joins.below_alloc1 w (.cells #[.pointer (some ⟨g, 0, none⟩), .int .i64 r] 222)
  have hr1 := row_new w 222 #[.pointer (some ⟨g, 0, none⟩), .int .i64 r]
  have h1 := h.keep hal
  have hge : g ≠ w.heap.size := fun e => by have := h.lt (.inr (.inr (.inr (.inr hg)))); omega
  have hge' : w.heap.size ≠ g := fun e => hge e.symm
  have p1 := h1.pg g hg
  have q16 := p1.us
  rw [hu] at q16
  have f16 := p1.fz 16
  have e0 : (w.alloc (.cells #[.pointer (some ⟨g, 0, none⟩), .int .i64 r] 222)).cell? ⟨w.heap.size, 0, none⟩ = some (.pointer (some ⟨g, 0, none⟩)) := by rw [hr1.cell]; rfl
  have h2 := h1.page (w' := (w.alloc (.cells #[.pointer (some ⟨g, 0, none⟩), .int .i64 r] 222)).setCell ⟨g, 16, none⟩ (.int .i64 (u - 1))) hg (Upd.set _ _ rfl) (p1.users (u - 1))
  rw [MS.us] at h2
  have HM := Lib.hid h2
  have HU : Hid (Upd (fun k => k = g) w ((w.alloc (.cells #[.pointer (some ⟨g, 0, none⟩), .int .i64 r] 222)).setCell ⟨g, 16, none⟩ (.int .i64 (u - 1)))) := Lib.hid ((Upd.below hal).trans (Upd.set _ _ rfl))
  have e2 : ((w.alloc (.cells #[.pointer (some ⟨g, 0, none⟩), .int .i64 r] 222)).setCell ⟨g, 16, none⟩ (.int .i64 (u - 1))).cell? ⟨w.heap.size, 0, none⟩ = some (.pointer (some ⟨g, 0, none⟩)) := set_blk hge' e0
  have q16b : ((w.alloc (.cells #[.pointer (some ⟨g, 0, none⟩), .int .i64 r] 222)).setCell ⟨g, 16, none⟩ (.int .i64 (u - 1))).cell? ⟨g, 16, none⟩ = some (.int .i64 (u - 1)) := set_same q16
  have y1 : IntKind.i64.wrap (u - 1) = u - 1 := IntWalk.i64_in _ (by omega)
  have n0 : ¬ u - 1 = 0 := by omega
  clear h hu hg hal h1 p1 h2
  go_enter Tryz.func83, Tryz.ntmps83
  go_upto_region 2 with fail
  generalize hw2 : (w.alloc (.cells #[.pointer (some ⟨g, 0, none⟩), .int .i64 r] 222)).setCell ⟨g, 16, none⟩ (.int .i64 (u - 1)) = w2 at *
  clear hw2 hr1 q16 f16 e0
  go_wp2_with fail
  (try simp only [Exit.inBlock, Exit.then]); first | (refine bodyPost_ret (results_none rfl _ _ _) rfl ?_) | (refine bodyPost_end (results_none rfl _ _ _) rfl ?_)
  exact ⟨rfl, HM.out, HU.out⟩
/-- the state behind Unmap of the first k pages, which others have, too -/
structure Unm (m m' : MS) (b : Nat) (k : Int) : Prop where
  pl : m'.pl = m.pl
  pv : m'.pv = m.pv
  S : m'.S = m.S
  nS : m'.nS = m.nS
  F : m'.F = fup m.F b (fun j => if 0 ≤ j ∧ j < k then none else m.F b j)
  nF : m'.nF = m.nF
  d : m'.d = m.d
  h : m'.h = m.h
  u0 : ∀ g, (∃ j r, 0 ≤ j ∧ j < k ∧ m.F b j = some (g, r)) → m'.u g = m.u g - 1
  u1 : ∀ g, (¬ ∃ j r, 0 ≤ j ∧ j < k ∧ m.F b j = some (g, r)) → m'.u g = m.u g
theorem Unm.start (m : MS) (b : Nat) : Unm m m b 0 := by
  refine ⟨rfl, rfl, rfl, rfl, ?_, rfl, rfl, rfl, fun g hg => ?_, fun _ _ => rfl⟩
  · rw [fup_id]
    funext j
    rw [if_neg (by omega)]
  · obtain ⟨j, r, h1, h2, -⟩ := hg
    omega
theorem Unm.gap {k : Int} (h : Unm m m' b k) (h0 : 0 ≤ k) (hk : m.F b k = none) : Unm m m' b (k + 1) := by
  refine ⟨h.pl, h.pv, h.S, h.nS, ?_, h.nF, h.d, h.h, fun g hg => ?_, fun g hg => ?_⟩
  · rw [h.F]
    congr 1
    funext j
    by_cases e : j = k
    · subst e; rw [hk]; simp
    · by_cases e2 : 0 ≤ j ∧ j < k
      · rw [if_pos e2, if_pos (by omega)]
      · rw [if_neg e2, if_neg (by omega)]
  · obtain ⟨j, r, h1, h2, h3⟩ := hg
    refine h.u0 g ⟨j, r, h1, ?_, h3⟩
    rcases Int.lt_or_eq_of_le (Int.lt_add_one_iff.1 h2) with q | q
    · exact q
    · rw [q, hk] at h3; cases h3
  · exact h.u1 g fun ⟨j, r, h1, h2, h3⟩ => hg ⟨j, r, h1, by omega, h3⟩
theorem Unm.met {k r : Int} (h : Unm m m' b k) (h0 : 0 ≤ k) (hk : m.F b k = some (g, r)) (ha : Lone (m.F b)) : m'.u g = m.u g ∧ Unm m { m' with u := fup m'.u g (m.u g - 1), nF := fup m'.nF b (m'.nF b), F := fup m'.F b (fun j => if j = k then none else m'.F b j) } b (k + 1) := by
  have e0 : m'.u g = m.u g := h.u1 g fun ⟨j, r', h1, h2, h3⟩ => by
    have := ha j k g r' r h3 hk
    omega
  refine ⟨e0, h.pl, h.pv, h.S, h.nS, ?_, ?_, h.d, h.h, fun q hq => ?_, fun q hq => ?_⟩
  · show fup m'.F b _ = _
    rw [h.F]
    funext q
    unfold fup
    by_cases e : q = b
    · simp only [if_pos e, if_true]
      funext j
      by_cases e1 : j = k
      · rw [if_pos e1, if_pos (by omega)]
      · rw [if_neg e1]
        by_cases e2 : 0 ≤ j ∧ j < k
        · rw [if_pos e2, if_pos (by omega)]
        · rw [if_neg e2, if_neg (by omega)]
    · simp only [if_neg e]
  · show fup m'.nF b _ = _
    rw [fup_id _ _ _ rfl, h.nF]
  · show fup m'.u g _ q = _
    by_cases e : q = g
    · subst e; rw [fup_same]
    · rw [fup_off _ _ e]
      obtain ⟨j, r', h1, h2, h3⟩ := hq
      refine h.u0 q ⟨j, r', h1, ?_, h3⟩
      rcases Int.lt_or_eq_of_le (Int.lt_add_one_iff.1 h2) with z | z
      · exact z
      · rw [z, hk] at h3; injection h3 with h3; injection h3 with h3; exact absurd h3.symm e
  · show fup m'.u g _ q = _
    have e : q ≠ g := fun e => hq ⟨k, r, h0, by omega, by rw [e]; exact hk⟩
    rw [fup_off _ _ e]
    exact h.u1 q fun ⟨j, r', h1, h2, h3⟩ => hq ⟨j, r', h1, by omega, h3⟩
set_option maxRecDepth 100000 in
set_option maxHeartbeats 1000000 in
theorem unmap_is (h : MemG w M so fr sl m) {s : Int} {n : Nat} (hs : m.S s = some b) (hwf : (Lit.int .i64 s).wf = true) (n1 : 1 ≤ n) (n64 : n ≤ 64) (ha : Lone (m.F b)) (hpl : ∀ k g r, 0 ≤ k → k < n → m.F b k = some (g, r) → g ∈ m.pl ∧ 2 ≤ m.u g ∧ m.u g < 1000000) :
    Calls Tryz.prog 36 #[.pointer (some ⟨M, 0, none⟩), .int .i64 s, .int .i64 0, .int .i64 n] w fun e w' => e = .returned (.int .i64 0) ∧ ∃ m', Unm m m' b n ∧ MemG w' M so fr sl m' ∧ Upd (mB M so m) w w' := by
  have HSP := Lib.hid (spanG_is h hs hwf (a := 0) (n := n) (r := 0) (by decide) (by decide) (by omega) (by omega) (by decide) (by decide))
  have HM := Lib.hid h
  have HS := Lib.hid (And.intro hs (And.intro hwf (And.intro ha hpl)))
  have HB : Hid (b < w.heap.size ∧ ∀ g, g ∈ m.pl → g < w.heap.size) := Lib.hid ⟨h.lt (.inr (.inr (.inr (.inl ⟨s, hs⟩)))), fun g hg => h.lt (.inr (.inr (.inr (.inr hg))))⟩
  have y0 : IntKind.i64.wrap (n : Int) = n := IntWalk.i64_in (n : Int) (by omega)
  clear h hs hwf ha hpl
  go_enter Tryz.func36, Tryz.ntmps36
  go_upto_region 4 with (go_at_call 82; refine HSP.out.mono ?_; rintro e1 w1 ⟨rfl, rfl⟩)
  clear HSP
  go_wp2_with fail
  go_loopw [10] (fun kv wr => ∃ k : Nat, k ≤ n ∧ kv = .int .i64 k ∧ Hid (∃ m', Unm m m' b k ∧ MemG wr M so fr sl m' ∧ Upd (mB M so m) w wr)) (fun kv _ => n - (intOf kv).toNat)
  case atStart => exact ⟨0, Nat.zero_le _, rfl, Lib.hid ⟨m, Unm.start m b, HM.out, Upd.refl _ _⟩⟩
  case round =>
    obtain ⟨k, hk0, rfl, HR⟩ := hrel
    by_cases hk : k < n
    · have i1 : (k : Int) < n := by omega
      obtain ⟨m', hun, hmm, huu⟩ := HR.out
      have hmS : m'.S s = some b := by rw [hun.S]; exact HS.out.1
      have HS' := Lib.hid hmS
      have m4 := hmm.m4
      have l1 := hmm.om.look HS.out.2.1
      rw [hmS] at l1
      change _ = Result.ok (Value.map (some b)) wr at l1
      have l2 := (hmm.im s b hmS).look_ok (k := (k : Int)) (WalkArith.wf_i64 (by omega))
      have hFk : m'.F b k = m.F b k := by rw [hun.F, fup_same, if_neg (by omega)]
      rw [hFk] at l2
      have HUN := Lib.hid hun
      have HMM := Lib.hid hmm
      have HUU := Lib.hid huu
      have HFK := Lib.hid hFk
      clear HR hun hmm huu hmS hFk
      cases hq : m.F b k with
      | none =>
        rw [hq] at l2
        change _ = Result.ok (Value.tuple #[.agg #[.pointer none, .int .i64 0], .bool false]) wr at l2
        have HQ := Lib.hid hq
        have HK : Hid (∃ m', Unm m m' b ((k : Int) + 1) ∧ MemG (wr.alloc (.cells #[.pointer none, .int .i64 0] 222)) M so fr sl m' ∧ Upd (mB M so m) w (wr.alloc (.cells #[.pointer none, .int .i64 0] 222))) := Lib.hid ⟨m', HUN.out.gap (by omega) HQ.out, HMM.out.keep (Go.Joins.below_alloc1 wr _), HUU.out.trans (Upd.below (Go.Joins.below_alloc1 wr _))⟩
        clear hq HQ
        go_wp2_with fail
        go_roundw
        case rel => exact ⟨k + 1, by omega, by go_num, by have := HK.out; exact_mod_cast this⟩
        case measure => simp [intOf]; omega
      | some gr =>
        obtain ⟨g, r⟩ := gr
        rw [hq] at l2
        change _ = Result.ok (Value.tuple #[.agg #[.pointer (some ⟨g, 0, none⟩), .int .i64 r], .bool true]) wr at l2
        have HQ := Lib.hid hq
        clear hq
        obtain ⟨hg, u2, ub⟩ := HS.out.2.2.2 k g r (by omega) (by omega) HQ.out
        obtain ⟨e0, hnx⟩ := HUN.out.met (by omega) HQ.out HS.out.2.2.1
        have HNX := Lib.hid hnx
        have HG := Lib.hid hg
        have HL := Lib.hid (letS_is (HMM.out.keep (Go.Joins.below_alloc1 wr (.cells #[.pointer (some ⟨g, 0, none⟩), .int .i64 r] 222))) (g := g) (by rw [HUN.out.pl]; exact hg) e0 u2 ub r)
        clear hg u2 ub e0 hnx
        go_upto_region 10 with (go_at_call 83; refine HL.out.mono ?_; rintro e3 w3 ⟨rfl, hm3, hu3⟩; have HM3 := Lib.hid hm3; have HU3 := Lib.hid ((Upd.below (Go.Joins.below_alloc1 wr (.cells #[.pointer (some ⟨g, 0, none⟩), .int .i64 r] 222))).trans hu3); clear hm3 hu3)
        clear m4 l1 l2 HL
        have m4 := HM3.out.m4
        have l1 := HM3.out.om.look HS.out.2.1
        rw [show ({ m' with u := fup m'.u g (m.u g - 1) } : MS).S s = some b from HS'.out] at l1
        change _ = Result.ok (Value.map (some b)) w3 at l1
        obtain ⟨D, hD, hmD, hfD⟩ := HM3.out.im s b HS'.out
        have HFD := Lib.hid (And.intro hmD hfD)
        clear hmD hfD
        have hkey : keyOf Tryz.prog 3 (.int .i64 (k : Int)) = some (.int .i64 (k : Int)) := keyOf_int_mk Tryz.underlying3 (WalkArith.wf_i64 (by omega))
        go_wp2_with (first | (at_delete; refine wpList_delete_own _ rfl _ _ 210 3 rfl _ keyed3 Tryz.underlying210 redE b _ D rfl hD _ _ rfl hkey ?_; intro w4 hown4 hturn4) | fail)
        have HI4 := Lib.hid (IMap.del hown4 HFD.out.1 HFD.out.2)
        have HU4 : Hid (Upd (fun k => k = b) w3 w4) := Lib.hid (Upd.grown hturn4.grown rfl)
        clear hown4 hturn4 hD hkey m4 l1
        have HK : Hid (∃ m', Unm m m' b ((k : Int) + 1) ∧ MemG w4 M so fr sl m' ∧ Upd (mB M so m) w w4) := Lib.hid ⟨_, HNX.out, HM3.out.space HS'.out HU4.out HI4.out, (HUU.out.trans (HU3.out.mono fun q _ e => .inr (.inr (.inr (.inr (by rw [e]; exact HG.out)))))).trans (HU4.out.mono fun q _ e => .inr (.inr (.inr (.inl ⟨s, by rw [e]; exact HS.out.1⟩))))⟩
        go_roundw
        case rel => exact ⟨k + 1, by omega, by go_num, by have := HK.out; exact_mod_cast this⟩
        case measure => simp [intOf]; omega
    · obtain rfl : k = n := by omega
      go_wp2_with fail
      go_ret
      exact ⟨rfl, HR.out⟩
end
end Go.Proofs.YtnbhohaphmilmaaGreatDoor
namespace Go.Proofs.YtnbhohaphmilmaaGreatDoor
open Go.RowKit Go.Maps
set_option linter.unusedVariables false
set_option linter.unusedSimpArgs false
/-- bytes, and zeros behind them -/
def padF (l : List Int) : Nat → Int := fun j => l.getD j 0
theorem by16_list (L : List Int) (h : L.length = 16) : (L.map u8V).toArray = by16 (padF L) := by
  obtain ⟨a0, L, rfl⟩ := List.exists_cons_of_length_eq_add_one h
  obtain ⟨a1, L, rfl⟩ := List.exists_cons_of_length_eq_add_one (by simpa using h)
  obtain ⟨a2, L, rfl⟩ := List.exists_cons_of_length_eq_add_one (by simpa using h)
  obtain ⟨a3, L, rfl⟩ := List.exists_cons_of_length_eq_add_one (by simpa using h)
  obtain ⟨a4, L, rfl⟩ := List.exists_cons_of_length_eq_add_one (by simpa using h)
  obtain ⟨a5, L, rfl⟩ := List.exists_cons_of_length_eq_add_one (by simpa using h)
  obtain ⟨a6, L, rfl⟩ := List.exists_cons_of_length_eq_add_one (by simpa using h)
  obtain ⟨a7, L, rfl⟩ := List.exists_cons_of_length_eq_add_one (by simpa using h)
  obtain ⟨a8, L, rfl⟩ := List.exists_cons_of_length_eq_add_one (by simpa using h)
  obtain ⟨a9, L, rfl⟩ := List.exists_cons_of_length_eq_add_one (by simpa using h)
  obtain ⟨b0, L, rfl⟩ := List.exists_cons_of_length_eq_add_one (by simpa using h)
  obtain ⟨b1, L, rfl⟩ := List.exists_cons_of_length_eq_add_one (by simpa using h)
  obtain ⟨b2, L, rfl⟩ := List.exists_cons_of_length_eq_add_one (by simpa using h)
  obtain ⟨b3, L, rfl⟩ := List.exists_cons_of_length_eq_add_one (by simpa using h)
  obtain ⟨b4, L, rfl⟩ := List.exists_cons_of_length_eq_add_one (by simpa using h)
  obtain ⟨b5, L, rfl⟩ := List.exists_cons_of_length_eq_add_one (by simpa using h)
  have : L = [] := List.eq_nil_of_length_eq_zero (by simpa using h)
  subst this
  rfl
theorem pad_splice {l : List Int} (h : l.length ≤ 16) : (splice ((zeros 16).map u8V) 0 (l.map u8V)).toArray = by16 (padF l) := by
  have e : splice ((zeros 16).map u8V) 0 (l.map u8V) = (l ++ zeros (16 - l.length)).map u8V := by
    unfold splice
    simp only [List.take_zero, List.nil_append, Nat.zero_add, List.length_map, List.map_append]
    congr 1
    rw [← List.map_drop]
    congr 1
    unfold zeros
    rw [List.drop_replicate]
  rw [e, by16_list _ (by simp [zeros]; omega)]
  congr 1
  funext j
  unfold padF
  simp only [List.getD_eq_getElem?_getD]
  by_cases hj : j < l.length
  · rw [List.getElem?_append_left hj]
  · rw [List.getElem?_append_right (by omega), List.getElem?_eq_none (l := l) (by omega)]
    by_cases hj2 : j - l.length < 16 - l.length
    · rw [List.getElem?_eq_getElem (by simpa [zeros] using hj2)]
      simp [zeros]
    · rw [List.getElem?_eq_none (by simp [zeros]; omega)]
/-- the state behind Put -/
def PutOne (B0 : Nat) (m m' : MS) (b : Nat) (a r : Int) (d : Nat → Int) : Prop := ∃ g v, B0 ≤ g ∧ (v.ownBlock = m.pv.ownBlock ∨ ∃ x, B0 ≤ x ∧ v.ownBlock = some x) ∧ m' = { m.add v g d with nF := fup m.nF b (m.nF b + 1), F := fup m.F b (fun j => if j = a then some (g, r) else m.F b j) }
section
variable {w w' wr : World} {M so g b : Nat} {fr sl : Int} {m m' : MS}
theorem grew_one (h : MemG w M so fr sl m) {a r : Int} {v : Value} {d : Nat → Int} {s : Int} (hs : m.S s = some b) {w1 w2 w3 : World} (hb : Below w.heap.size w w1) (hm : MemG w2 M so fr sl (m.add v g d)) (hg : w1.heap.size ≤ g) (hv : v.ownBlock = m.pv.ownBlock ∨ ∃ x, w1.heap.size ≤ x ∧ v.ownBlock = some x) (hu : Upd (fun k => k = M ∨ m.pv.ownBlock = some k) w1 w2)
    (hi : IMap w3 b (m.nF b + 1) (fun j => if j = a then some (g, r) else m.F b j)) (hg2 : w2.grownBy w3 (some b)) : ∃ m', PutOne w.heap.size m m' b a r d ∧ MemG w3 M so fr sl m' ∧ Upd (mB M so m) w w3 := by
  have hsz := hb.size
  have hs' : (m.add v g d).S s = some b := hs
  have hub := Upd.grown hg2 (S := fun k => k = b) rfl
  refine ⟨_, ⟨g, v, by omega, ?_, rfl⟩, hm.space hs' hub hi, ?_⟩
  · rcases hv with q | ⟨x, q1, q2⟩
    · exact .inl q
    · exact .inr ⟨x, by omega, q2⟩
  · refine ((Upd.below hb).trans' hu (fun k hk e => ?_)).trans' hub (fun k hk e => .inr (.inr (.inr (.inl ⟨s, by rw [hs, e]⟩))))
    rcases e with e | e
    · exact .inl e
    · exact .inr (.inr (.inl e))
theorem put_e {w1 : World} {v : Value} {s r : Int} {d : Nat → Int} (hm : MemG w1 M so fr sl (m.add v g d)) (hs : m.S s = some b) {i : Int} (hi : (Lit.int .i64 i).wf = true) (hn : m.nF b < 100000) : ∃ w', (Instr.mapUpdate 210 (.map (some b)) (.int .i64 i) (.agg #[.pointer (some ⟨g, 0, none⟩), .int .i64 r])).run Tryz.prog w1 = .ok () w' ∧ IMap w' b (m.nF b + 1) (fun j => if j = i then some (g, r) else m.F b j) ∧ w1.grownBy w' (some b) :=
  (hm.im s b hs).put hi (by show m.nF b < _; unfold maxLen; omega) g r
theorem put_S {w5 w6 : World} {a r s : Int} {d : Nat → Int} {B0 : Nat} {L : List Value} (h : ∃ m', PutOne B0 m m' b a r d ∧ MemG w6 M so fr sl m' ∧ Upd (mB M so m) w w6) (hg : w5.grownBy w6 (some b)) (hl : g < w5.heap.size) (hn : g ≠ b) (hs : m.S s = some b) (hwf : (Lit.int .i64 s).wf = true) (hr : w5.rangeAt g 0 L) : w6.cell? ⟨M, 4, none⟩ = some (.map (some so)) ∧ (Instr.lookup 131 (.map (some so)) (.int .i64 s) false).run Tryz.prog w6 = .ok (.map (some b)) w6 ∧ w6.rangeAt g 0 L := by
  obtain ⟨m', ⟨g', v, -, -, rfl⟩, hm, -⟩ := h
  refine ⟨hm.m4, ?_, fun j v hv => ((Upd.grown hg (S := fun k => k = b) rfl).cell (b := g) (o := 0 + j) hl hn).trans (hr j v hv)⟩
  have l1 := hm.om.look hwf
  rw [show ({ m.add v g' d with nF := fup m.nF b (m.nF b + 1), F := fup m.F b (fun j => if j = a then some (g', r) else m.F b j) } : MS).S s = some b from hs] at l1
  exact l1
set_option maxRecDepth 100000 in
set_option maxHeartbeats 1000000 in
theorem put_is (h : MemG w M so fr sl m) {s a r : Int} (hs : m.S s = some b) (hwf : (Lit.int .i64 s).wf = true) (ha : 0 ≤ a) (ha' : a < 64) (hr : 0 ≤ r) (hr' : r ≤ 7) (hfree : m.F b a = none)
    (hf : 0 ≤ fr ∧ fr ≤ 1000) (hsl : 0 ≤ sl ∧ sl ≤ 1000) (hc : (m.pl.countP m.h : Int) < fr) (hl : (m.pl.length : Int) + 1 ≤ fr + sl) (hnF : m.nF b < 10000)
    {dp : Option Addr} {dc : Nat} {l : List Int} (h16 : l.length ≤ 16) (hsrc : 0 < (l.map u8V).length → ∃ ad, dp = some ad ∧ ∀ j v, (l.map u8V)[j]? = some v → w.cell? (ad.add j) = some v) :
    Calls Tryz.prog 37 #[.pointer (some ⟨M, 0, none⟩), .int .i64 s, .int .i64 a, .int .i64 r, .slice dp l.length dc] w fun e w' => e = .returned (.int .i64 0) ∧ ∃ m', PutOne w.heap.size m m' b a r (padF l) ∧ MemG w' M so fr sl m' ∧ Upd (mB M so m) w w' := by
  have HSP := Lib.hid (spanG_is h hs hwf (a := a) (n := 1) (r := r) ha ha' (by decide) (by omega) hr hr')
  have hal := Go.Joins.below_alloc1 w (.cells #[.pointer none, .int .i64 0] 222)
  have HAL := Lib.hid hal
  have HRO := Lib.hid (roomG_is (h.keep hal) 1 (by decide) hf hsl (by omega))
  rw [show decide (1 ≤ fr + sl - m.pl.length) = true by simp; omega] at HRO
  have m4 := h.m4
  have l1 := h.om.look hwf
  rw [hs] at l1
  change _ = Result.ok (Value.map (some b)) w at l1
  have l2 := (h.im s b hs).look_ok (k := a) (WalkArith.wf_i64 (by omega))
  rw [hfree] at l2
  change _ = Result.ok (Value.tuple #[.agg #[.pointer none, .int .i64 0], .bool false]) w at l2
  have j16 : ¬ (16 : Int) < l.length := by omega
  have HM := Lib.hid h
  have HS := Lib.hid (And.intro hs (And.intro hwf (And.intro hc (And.intro hl hnF))))
  have HWF : Hid ((Lit.int .i64 a).wf = true) := Lib.hid (WalkArith.wf_i64 (by omega))
  have HPL : Hid (m.pl.length < 100000) := Lib.hid (by omega)
  have HNF : Hid (m.nF b < 100000) := Lib.hid (by omega)
  have H16 := Lib.hid h16
  have HSRC := Lib.hid hsrc
  clear h hs hwf ha ha' hr hr' hfree hf hsl hc hl hnF h16 hsrc hal
  obtain ⟨sn, hsn⟩ : ∃ sn, sn = l.length := ⟨_, rfl⟩
  rw [← hsn] at j16 ⊢
  have HSN := Lib.hid hsn
  clear hsn
  go_enter Tryz.func37, Tryz.ntmps37
  go_upto_region 9 with (go_at_call 82; refine HSP.out.mono ?_; rintro e1 w1 ⟨rfl, rfl⟩)
  clear HSP
  go_upto_region 12 with (go_at_call 84; refine HRO.out.mono ?_; rintro e2 w2 ⟨rfl, hb2⟩; have HB2 := Lib.hid (HAL.out.trans (hb2.mono HAL.out.size)); clear hb2)
  clear HRO HAL m4 l1 l2
  have HZ : Hid ((((zeros 16).map u8V).toArray : Array Value) = #[.int .u8 0, .int .u8 0, .int .u8 0, .int .u8 0, .int .u8 0, .int .u8 0, .int .u8 0, .int .u8 0, .int .u8 0, .int .u8 0, .int .u8 0, .int .u8 0, .int .u8 0, .int .u8 0, .int .u8 0, .int .u8 0]) := Lib.hid rfl
  have HG3 : Hid ((w2.alloc (.cells #[.int .u8 0, .int .u8 0, .int .u8 0, .int .u8 0, .int .u8 0, .int .u8 0, .int .u8 0, .int .u8 0, .int .u8 0, .int .u8 0, .int .u8 0, .int .u8 0, .int .u8 0, .int .u8 0, .int .u8 0, .int .u8 0] 134)).heap[w2.heap.size]? = some (.cells ((zeros 16).map u8V).toArray 134 (0, 0))) := Lib.hid (heap_alloc_new w2 _)
  have HB3 := Lib.hid (HB2.out.trans ((Go.Joins.below_alloc1 w2 (.cells #[.int .u8 0, .int .u8 0, .int .u8 0, .int .u8 0, .int .u8 0, .int .u8 0, .int .u8 0, .int .u8 0, .int .u8 0, .int .u8 0, .int .u8 0, .int .u8 0, .int .u8 0, .int .u8 0, .int .u8 0, .int .u8 0] 134)).mono HB2.out.size))
  have HGB : Hid (w.heap.size ≤ w2.heap.size) := Lib.hid HB2.out.size
  obtain ⟨g, hg⟩ : ∃ g, g = w2.heap.size := ⟨_, rfl⟩
  rw [← hg] at HG3 HGB ⊢
  clear hg HZ
  generalize w2.alloc (.cells #[.int .u8 0, .int .u8 0, .int .u8 0, .int .u8 0, .int .u8 0, .int .u8 0, .int .u8 0, .int .u8 0, .int .u8 0, .int .u8 0, .int .u8 0, .int .u8 0, .int .u8 0, .int .u8 0, .int .u8 0, .int .u8 0] 134) = w3 at *
  have hcl : (l.map u8V).length = Nat.min sn 16 := by rw [List.length_map, HSN.out]; exact (Nat.min_eq_left H16.out).symm
  have h1M := u8V_one l
  have hfit : 0 + (l.map u8V).length ≤ ((zeros 16).map u8V).length := by simp [zeros_len]; exact H16.out
  have hpos : 0 < (l.map u8V).length → (some ⟨g, 0, none⟩ : Option Addr) = some ⟨g, 0, none⟩ ∧ ∃ ad, dp = some ad ∧ ∀ j v, (l.map u8V)[j]? = some v → w3.cell? (ad.add j) = some v := fun hp => by
    obtain ⟨ad, e, hc⟩ := HSRC.out hp
    exact ⟨rfl, ad, e, fun j v hv => (HB3.out.cell (World.block_lt_of_cell? w _ (hc j v hv))).trans (hc j v hv)⟩
  have H1 := Lib.hid hcl
  have H2 := Lib.hid h1M
  have H3 := Lib.hid hfit
  have H4 := Lib.hid hpos
  clear hcl h1M hfit hpos
  go_wp2_with (refine wpList_copy_splice (o := ⟨some 43, _, _, _, _, _⟩) rfl (.tmp 41) (.tmp 42) 54 54 rfl 5 Tryz.underlying54 (by kernel_rfl) _ _ 16 16 sn dc rfl rfl g 0 ((zeros 16).map u8V) 134 HG3.out (l.map u8V) H1.out H4.out H3.out H2.out w.heap.size w HB3.out HGB.out ?_)
  intro w4 hg4 hb4
  have hr4 : Row w4 g 134 (by16 (padF l)) := by
    have := hg4.out
    rw [pad_splice H16.out] at this
    exact this
  have hbd := hb4.drew
  have hl4 : w4.drew.rangeAt g 0 (by16 (padF l)).toList := fun j v hv => by
    rw [(hr4.keep (Below.refl _ _).drew).cell]
    simpa using hv
  have HGM : Hid (g ≠ M ∧ m.pv.ownBlock ≠ some g ∧ g < w4.drew.heap.size ∧ g ≠ b) := Lib.hid ⟨fun e => by have := HM.out.mlt; have := HGB.out; omega, fun e => by have := HM.out.lt (.inr (.inr (.inl e))); have := HGB.out; omega, (hr4.keep (Below.refl _ _).drew).lt, fun e => by have := HM.out.lt (.inr (.inr (.inr (.inl ⟨s, HS.out.1⟩)))); have := HGB.out; omega⟩
  have hund := Tryz.underlying134
  have hisz : (Tryz.prog.info? 134).map (·.size) = some (by16 (padF l)).toList.length := by kernel_rfl
  have HM4 := Lib.hid (HM.out.keep hbd)
  have HA := Lib.hid (addPg_is HM4.out (padF l) HS.out.2.2.1 HPL.out)
  have HB4 := Lib.hid hbd
  have HL0 : Hid (w4.drew.cell? ⟨M, 4, none⟩ = some (.map (some so)) ∧ (Instr.lookup 131 (.map (some so)) (.int .i64 s) false).run Tryz.prog w4.drew = .ok (.map (some b)) w4.drew ∧ w4.drew.rangeAt g 0 (by16 (padF l)).toList) := Lib.hid ⟨HM4.out.m4, by
    have l1 := HM4.out.om.look HS.out.2.1
    rw [HS.out.1] at l1
    exact l1, hl4⟩
  clear H1 H2 H3 H4 HG3 hg4 hb4 hr4 hbd hl4 HB3 HGB HB2 HSN HSRC
  go_upto_region 13 with fail
  go_region_held3 (fun wx => wx.cell? ⟨M, 4, none⟩ = some (.map (some so)) ∧ (Instr.lookup 131 (.map (some so)) (.int .i64 s) false).run Tryz.prog wx = .ok (.map (some b)) wx ∧ wx.rangeAt g 0 (by16 (padF l)).toList) (first | assumption | exact HL0.out | exact hS6.out | exact Hid.out ‹_› | go_keep)
    ((go_at_call 85; (with_reducible refine HA.out.mono ?_); rintro e5 w5 ⟨g5, v5, rfl, hg5, hm5, hv5, hu5⟩; obtain ⟨w6, hup, hi6, hgr6⟩ := put_e (r := r) hm5 HS.out.1 HWF.out HNF.out; have HN := Lib.hid (grew_one HM.out HS.out.1 HB4.out hm5 hg5 hv5 hu5 hi6 hgr6); have hS : w5.cell? ⟨M, 4, none⟩ = some (.map (some so)) ∧ (Instr.lookup 131 (.map (some so)) (.int .i64 s) false).run Tryz.prog w5 = .ok (.map (some b)) w5 ∧ w5.rangeAt g 0 (by16 (padF l)).toList := ⟨hm5.m4, by have l1 := hm5.om.look HS.out.2.1; rw [show (m.add v5 g5 (padF l)).S s = some b from HS.out.1] at l1; exact l1, fun j v hv => (hu5.cell (b := g) (o := 0 + j) HGM.out.2.2.1 (fun e => e.elim HGM.out.1 HGM.out.2.1)).trans (HL0.out.2.2 j v hv)⟩; have hS6 := Lib.hid (put_S HN.out (w5 := w5) (g := g) hgr6 (Nat.lt_of_lt_of_le HGM.out.2.2.1 hu5.size) HGM.out.2.2.2 HS.out.1 HS.out.2.1 hS.2.2); clear hm5 hg5 hv5 hu5 hi6 hgr6))
  all_goals clear hup hS hS6
  all_goals
    go_wp2_with fail
    go_ret
    exact ⟨rfl, HN.out⟩
end
end Go.Proofs.YtnbhohaphmilmaaGreatDoor
namespace Go.Proofs.YtnbhohaphmilmaaGreatDoor
open Go.RowKit
set_option linter.unusedVariables false
set_option linter.unusedSimpArgs false
section
variable {w w0 w1 w2 : World} {k : KC} {s s0 s' : KSt} {p : Nat}
/-- another memory -/
theorem KG.mem {m' : MS} (h : KG s0 k w w1 s) (hm : MemG w2 k.M k.so s.fr s.sl m') (hu : Upd (mB k.M k.so s.m) w1 w2) (hB : ∀ j, mB k.M k.so m' j → mB k.M k.so s.m j ∨ w1.heap.size ≤ j) : KG s0 k w w2 { s with m := m', tag := tg s.tag w1.heap.size (mB k.M k.so m') 6 } :=
  h.step (h.kt.mem hm hu hB) hu (fun j e => by rw [h.kt.tM j e]; decide) (fun j e => by
    rcases Nat.lt_or_ge j w1.heap.size with q | q
    · have e : tg s.tag w1.heap.size (mB k.M k.so m') 6 j ≠ 0 := e
      rw [tg_old q] at e; exact .inl e
    · exact .inr q)
set_option maxRecDepth 100000 in
set_option maxHeartbeats 400000 in
theorem kspace_is (h : KT w k s) (h1 : 1 ≤ p) (h16 : p ≤ 16) (hl : (s.t p).st = 1) {s1 : Int} (hsp : s.c (8 + p * 38) = .int .i64 s1) : Calls Tryz.prog 35 #[.pointer (some ⟨k.K, 0, none⟩), .int .i64 p] w fun e w' => e = .returned (.tuple #[.int .i64 s1, .int .i64 0]) ∧ w = w' := by
  have HL := Lib.hid (livingP_is h h1 h16 hl)
  have q8 : w.cell? ⟨k.K, 8 + p * 38, none⟩ = some (.int .i64 s1) := by rw [h.kr.cell (by omega), hsp]
  have i17 : (p : Int) < 17 := by omega
  clear h hl hsp
  go_enter Tryz.func35, Tryz.ntmps35
  go_wp2_with (go_at_call 20; refine HL.out.mono ?_; rintro e1 w1 ⟨rfl, rfl⟩)
  go_ret2
  exact ⟨rfl, rfl⟩
set_option maxRecDepth 100000 in
theorem kmem_is (h : KT w k s) : Calls Tryz.prog 18 #[.pointer (some ⟨k.K, 0, none⟩)] w fun e w' => e = .returned (.pointer (some ⟨k.M, 0, none⟩)) ∧ w = w' := by
  have q1 : w.cell? ⟨k.K, 1, none⟩ = some (.pointer (some ⟨k.M, 0, none⟩)) := by rw [h.kr.cell (by decide), h.c1]
  clear h
  go_enter Tryz.func18, Tryz.ntmps18
  go_wp2_with fail
  go_ret
  exact ⟨rfl, rfl⟩
end
/-- what page i of a program has -/
def pgB (L : List Int) (i : Nat) : List Int := (L.drop (16 * i)).take 16
/-- pages that are put, one by one -/
def PutsTo (B0 b : Nat) (f : Nat → Int × List Int) (m : MS) : Nat → MS → Prop
  | 0, m' => m' = m
  | i + 1, m' => ∃ m1, PutsTo B0 b f m i m1 ∧ PutOne B0 m1 m' b i (f i).1 (padF (f i).2)
structure PutFacts (B0 b : Nat) (f : Nat → Int × List Int) (m : MS) (i : Nat) (m' : MS) : Prop where
  S : m'.S = m.S
  nS : m'.nS = m.nS
  len : m'.pl.length = m.pl.length + i
  nF : m'.nF b = m.nF b + i
  fr : ∀ j : Int, (j < 0 ∨ (i : Int) ≤ j) → m'.F b j = m.F b j
  oth : ∀ b', b' ≠ b → m'.F b' = m.F b' ∧ m'.nF b' = m.nF b'
  pv : m'.pv.ownBlock = m.pv.ownBlock ∨ ∃ x, B0 ≤ x ∧ m'.pv.ownBlock = some x
  pl : ∀ g, g ∈ m.pl → g ∈ m'.pl
  nw : ∀ g, g ∈ m'.pl → g ∈ m.pl ∨ B0 ≤ g
  old : ∀ g, g < B0 → m'.d g = m.d g ∧ m'.u g = m.u g
  pg : ∀ j, j < i → ∃ g, B0 ≤ g ∧ g ∈ m'.pl ∧ m'.F b (j : Nat) = some (g, (f j).1) ∧ m'.d g = padF (f j).2 ∧ m'.u g = 1
  inj : ∀ j j' g r r', j < i → j' < i → m'.F b (j : Nat) = some (g, r) → m'.F b (j' : Nat) = some (g, r') → j = j'
theorem PutsTo.facts {B0 b : Nat} {f : Nat → Int × List Int} {m : MS} (hB : ∀ g, g ∈ m.pl → g < B0) : ∀ {i : Nat} {m' : MS}, PutsTo B0 b f m i m' → m'.pl.Nodup → PutFacts B0 b f m i m'
  | 0, m', h, _ => by
    have h : m' = m := h
    subst h
    exact ⟨rfl, rfl, rfl, rfl, fun _ _ => rfl, fun _ _ => ⟨rfl, rfl⟩, .inl rfl, fun _ e => e, fun _ e => .inl e, fun _ _ => ⟨rfl, rfl⟩, fun j hj => absurd hj (Nat.not_lt_zero _), fun j j' g r r' hj => absurd hj (Nat.not_lt_zero _)⟩
  | i + 1, m', ⟨m1, h1, g, v, hg, hv, e⟩, hnd => by
    subst e
    have hpl : (m1.pl ++ [g]).Nodup := hnd
    have hnd1 : m1.pl.Nodup := (List.nodup_append.1 hpl).1
    have hgn : ¬ g ∈ m1.pl := fun q => (List.nodup_append.1 hpl).2.2 g q g (by simp) rfl
    have q := PutsTo.facts hB h1 hnd1
    refine ⟨q.S, q.nS, ?_, ?_, fun j hj => ?_, fun b' hb' => ⟨?_, ?_⟩, ?_, fun x hx => ?_, fun x hx => ?_, fun x hx => ⟨?_, ?_⟩, fun j hj => ?_, fun j j' g1 r r' hj hj' e1 e2 => ?_⟩
    · show (m1.pl ++ [g]).length = _
      rw [List.length_append, q.len]; simp; omega
    · show fup m1.nF b (m1.nF b + 1) b = _
      rw [fup_same, q.nF]; omega
    · show fup m1.F b _ b j = _
      rw [fup_same, if_neg (by push_cast at hj; omega)]
      exact q.fr j (by push_cast at hj; omega)
    · show fup m1.F b _ b' = _
      rw [fup_off _ _ hb']; exact (q.oth b' hb').1
    · show fup m1.nF b _ b' = _
      rw [fup_off _ _ hb']; exact (q.oth b' hb').2
    · show v.ownBlock = _ ∨ ∃ x, B0 ≤ x ∧ v.ownBlock = some x
      rcases hv with z | z
      · rw [z]; exact q.pv
      · exact .inr z
    · exact List.mem_append.2 (.inl (q.pl x hx))
    · rcases List.mem_append.1 hx with z | z
      · exact q.nw x z
      · simp at z; subst z; exact .inr hg
    · show fup m1.d g _ x = _
      rw [fup_off _ _ (by omega)]; exact (q.old x hx).1
    · show fup m1.u g _ x = _
      rw [fup_off _ _ (by omega)]; exact (q.old x hx).2
    · by_cases ej : j = i
      · subst ej
        exact ⟨g, hg, List.mem_append.2 (.inr (by simp)), by show fup m1.F b _ b _ = _; rw [fup_same, if_pos rfl], by show fup m1.d g _ g = _; rw [fup_same], by show fup m1.u g _ g = _; rw [fup_same]⟩
      · obtain ⟨g0, a1, a2, a3, a4, a5⟩ := q.pg j (by omega)
        have hne : g0 ≠ g := fun z => hgn (z ▸ a2)
        refine ⟨g0, a1, List.mem_append.2 (.inl a2), ?_, ?_, ?_⟩
        · show fup m1.F b _ b _ = _
          rw [fup_same, if_neg (by omega)]; exact a3
        · show fup m1.d g _ g0 = _
          rw [fup_off _ _ hne]; exact a4
        · show fup m1.u g _ g0 = _
          rw [fup_off _ _ hne]; exact a5
    · have f1 : ∀ n : Nat, n ≠ i → fup m1.F b (fun j => if j = (i : Int) then some (g, (f i).1) else m1.F b j) b n = m1.F b n := fun n hn => by rw [fup_same, if_neg (by omega)]
      have f2 : fup m1.F b (fun j => if j = (i : Int) then some (g, (f i).1) else m1.F b j) b i = some (g, (f i).1) := by rw [fup_same, if_pos rfl]
      have e1 : fup m1.F b (fun j => if j = (i : Int) then some (g, (f i).1) else m1.F b j) b j = some (g1, r) := e1
      have e2 : fup m1.F b (fun j => if j = (i : Int) then some (g, (f i).1) else m1.F b j) b j' = some (g1, r') := e2
      have key : ∀ n : Nat, n < i + 1 → n ≠ i → ∀ x r2, fup m1.F b (fun j => if j = (i : Int) then some (g, (f i).1) else m1.F b j) b n = some (x, r2) → x ≠ g := fun n hn hni x r2 hx z => by
        obtain ⟨g0, a1, a2, a3, -, -⟩ := q.pg n (by omega)
        rw [f1 n hni, a3] at hx
        injection hx with hx
        injection hx with hx
        exact hgn (by rw [← z, ← hx]; exact a2)
      by_cases ej : j = i
      · by_cases ej' : j' = i
        · omega
        · exfalso
          subst ej
          rw [f2] at e1
          injection e1 with e1
          injection e1 with e1
          exact key j' hj' ej' _ _ e2 e1.symm
      · by_cases ej' : j' = i
        · exfalso
          subst ej'
          rw [f2] at e2
          injection e2 with e2
          injection e2 with e2
          exact key j hj ej _ _ e1 e2.symm
        · rw [f1 j ej] at e1
          rw [f1 j' ej'] at e2
          exact q.inj j j' g1 r r' (by omega) (by omega) e1 e2
theorem PutOne.mB {B0 b : Nat} {m m' : MS} {a r : Int} {d : Nat → Int} (h : PutOne B0 m m' b a r d) {M so j : Nat} (hj : mB M so m' j) : mB M so m j ∨ B0 ≤ j := by
  obtain ⟨g, v, hg, hv, rfl⟩ := h
  rcases hj with q | q | q | ⟨s, q⟩ | q
  · exact .inl (.inl q)
  · exact .inl (.inr (.inl q))
  · have q : v.ownBlock = some j := q
    rcases hv with z | ⟨x, z1, z2⟩
    · exact .inl (.inr (.inr (.inl (by rw [← z]; exact q))))
    · rw [z2] at q; injection q with q; exact .inr (by omega)
  · exact .inl (.inr (.inr (.inr (.inl ⟨s, q⟩))))
  · have q : j ∈ m.pl ++ [g] := q
    rcases List.mem_append.1 q with z | z
    · exact .inl (.inr (.inr (.inr (.inr z))))
    · simp at z; exact .inr (by omega)
theorem Unm.mB {b : Nat} {n : Int} {m m' : MS} (h : Unm m m' b n) {M so j : Nat} (hj : mB M so m' j) : mB M so m j := by
  rcases hj with q | q | q | ⟨s, q⟩ | q
  · exact .inl q
  · exact .inr (.inl q)
  · exact .inr (.inr (.inl (by rw [← h.pv]; exact q)))
  · exact .inr (.inr (.inr (.inl ⟨s, by rw [← h.S]; exact q⟩)))
  · exact .inr (.inr (.inr (.inr (by rw [← h.pl]; exact q))))
end Go.Proofs.YtnbhohaphmilmaaGreatDoor
