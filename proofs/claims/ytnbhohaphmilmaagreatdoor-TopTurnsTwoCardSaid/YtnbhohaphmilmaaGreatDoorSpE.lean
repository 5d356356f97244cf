/- The walks of space: span, Map, at any memory. The walks of space's let, and of slices.DeleteFunc at its pages. -/
import Derived.Test.YtnbhohaphmilmaaGreatDoorSpC
import Derived.Test.YtnbhohaphmilmaaGreatDoorSprA
import Derived.Lib.SliceRun
import Derived.LaidEqlPtr
namespace Go.Proofs.YtnbhohaphmilmaaGreatDoor
open Go.RowKit Go.Maps
set_option linter.unusedVariables false
set_option linter.unusedSimpArgs false
/-- what a memory is behind new pages of a space -/
structure Grew (B0 : Nat) (m m' : MS) (b : Nat) (first r : Int) (new : List Nat) : Prop where
  pl : m'.pl = m.pl ++ new
  nw : ∀ g, g ∈ new → B0 ≤ g
  S : m'.S = m.S
  nS : m'.nS = m.nS
  F : m'.F = fup m.F b (fun k => if first ≤ k ∧ k < first + new.length then (new[(k - first).toNat]?).map (fun g => (g, r)) else m.F b k)
  nF : m'.nF = fup m.nF b (m.nF b + new.length)
  old : ∀ g, ¬ g ∈ new → m'.d g = m.d g ∧ m'.u g = m.u g ∧ m'.h g = m.h g
  nd : ∀ g, g ∈ new → m'.d g = (fun _ => 0) ∧ m'.u g = 1 ∧ m'.h g = true
  pv : m'.pv.ownBlock = m.pv.ownBlock ∨ ∃ x, B0 ≤ x ∧ m'.pv.ownBlock = some x
theorem Grew.start (B0 : Nat) (m : MS) (b : Nat) (first r : Int) : Grew B0 m m b first r [] := by
  refine ⟨by simp, fun g hg => (by cases hg), rfl, rfl, ?_, ?_, fun g _ => ⟨rfl, rfl, rfl⟩, fun g hg => (by cases hg), .inl rfl⟩
  · rw [fup_id]
    funext k
    rw [if_neg (fun q => by have := q.1; have q2 := q.2; simp at q2; omega)]
  · rw [fup_id]; simp
section
variable {w w' wr : World} {M so g b : Nat} {fr sl : Int} {m m' : MS} {first r : Int} {new : List Nat}
theorem Grew.count {B0 : Nat} (h : Grew B0 m m' b first r new) (hB : ∀ g, g ∈ m.pl → g < B0) : m'.pl.countP m'.h = m.pl.countP m.h + new.length := by
  rw [h.pl, List.countP_append]
  congr 1
  · rw [List.countP_eq_length_filter, List.countP_eq_length_filter]
    congr 1
    refine List.filter_congr fun x hx => ?_
    rw [(h.old x (fun q => by have := h.nw x q; have := hB x hx; omega)).2.2]
  · rw [List.countP_eq_length_filter, List.filter_eq_self.2 (fun x hx => (h.nd x hx).2.2)]
set_option maxRecDepth 100000 in
set_option maxHeartbeats 400000 in
theorem spanG_is (h : MemG w M so fr sl m) {s a n r : Int} (hs : m.S s = some b) (hwf : (Lit.int .i64 s).wf = true) (ha : 0 ≤ a) (ha' : a < 64) (hn : 1 ≤ n) (hn' : n ≤ 64 - a) (hr : 0 ≤ r) (hr' : r ≤ 7) : Calls Tryz.prog 82 #[.pointer (some ⟨M, 0, none⟩), .int .i64 s, .int .i64 a, .int .i64 n, .int .i64 r] w fun e w' => e = .returned (.int .i64 0) ∧ w = w' := by
  have m4 := h.m4
  have l1 := h.om.look hwf
  rw [hs] at l1
  change _ = Result.ok (Value.map (some b)) w at l1
  have l2 := map_no_nil w b
  have i0 : ¬ a < 0 := by omega
  have i1 : ¬ (64 : Int) ≤ a := by omega
  have i2 : ¬ n < 1 := by omega
  have i3 : ¬ 64 - a < n := by omega
  have i4 : ¬ r < 0 := by omega
  have i5 : ¬ (7 : Int) < r := by omega
  have y0 : IntKind.i64.wrap (64 - a) = 64 - a := IntWalk.i64_in _ (by omega)
  clear h hs hwf
  go_enter Tryz.func82, Tryz.ntmps82
  go_wp2_with fail
  go_ret
  exact ⟨rfl, rfl⟩
theorem by_zero (w : World) : (bdR 134 #[]).run Tryz.prog w = .ok (.agg (by16 fun _ => 0)) w := by kernel_rfl
theorem bd_16 (ps : Array (Nat × Value)) : Instr.build 134 ps = bdR 134 ps := rfl
/-- one page more -/
theorem Grew.next {B0 : Nat} (h : Grew B0 m m' b first r new) {v : Value} (hg : B0 ≤ g) (hv : v.ownBlock = m'.pv.ownBlock ∨ ∃ x, B0 ≤ x ∧ v.ownBlock = some x) (hng : ¬ g ∈ new) :
    Grew B0 m { (m'.add v g (fun _ => 0)) with nF := fup m'.nF b (m'.nF b + 1), F := fup m'.F b (fun j => if j = first + new.length then some (g, r) else m'.F b j) } b first r (new ++ [g]) := by
  refine ⟨by show m'.pl ++ [g] = _; rw [h.pl, List.append_assoc], fun x hx => ?_, h.S, h.nS, ?_, ?_, fun x hx => ?_, fun x hx => ?_, ?_⟩
  · rcases List.mem_append.1 hx with q | q
    · exact h.nw x q
    · simp at q; omega
  · show fup m'.F b _ = _
    rw [h.F]
    funext k
    unfold fup
    by_cases hk : k = b
    · simp only [if_pos hk]
      funext j
      by_cases e : j = first + (new.length : Int)
      · subst e
        rw [if_pos rfl, if_pos (by simp; omega), show (first + (new.length : Int) - first).toNat = new.length by omega]
        simp
      · rw [if_neg e]
        by_cases e2 : first ≤ j ∧ j < first + (new.length : Int)
        · rw [if_pos trivial, if_pos e2, if_pos (by simp; omega), List.getElem?_append_left (by omega)]
        · rw [if_pos trivial, if_neg e2, if_neg (by simp; omega)]
    · simp only [if_neg hk]
  · show fup m'.nF b _ = _
    rw [h.nF]
    funext k
    unfold fup
    by_cases hk : k = b
    · simp [hk]; omega
    · simp [hk]
  · have h1 : ¬ x ∈ new := fun q => hx (List.mem_append.2 (.inl q))
    have h2 : x ≠ g := fun q => hx (List.mem_append.2 (.inr (by simp [q])))
    show fup m'.d g _ x = _ ∧ fup m'.u g _ x = _ ∧ fup m'.h g _ x = _
    rw [fup_off _ _ h2, fup_off _ _ h2, fup_off _ _ h2]
    exact h.old x h1
  · show fup m'.d g _ x = _ ∧ fup m'.u g _ x = _ ∧ fup m'.h g _ x = _
    by_cases h2 : x = g
    · subst h2; exact ⟨fup_same _ _ _, fup_same _ _ _, fup_same _ _ _⟩
    · rw [fup_off _ _ h2, fup_off _ _ h2, fup_off _ _ h2]
      rcases List.mem_append.1 hx with q | q
      · exact h.nd x q
      · simp at q; exact absurd q h2
  · show v.ownBlock = m.pv.ownBlock ∨ ∃ x, B0 ≤ x ∧ v.ownBlock = some x
    rcases hv with q | q
    · rw [q]; exact h.pv
    · exact .inr q
theorem encE_some (g : Nat) (r : Int) : encE (some (g, r)) = .agg #[.pointer (some ⟨g, 0, none⟩), .int .i64 r] := rfl
/-- while pages are added -/
structure Adds (w : World) (m : MS) (M so : Nat) (fr sl : Int) (b : Nat) (first r : Int) (wr : World) (m' : MS) (new : List Nat) : Prop where
  mem : MemG wr M so fr sl m'
  gr : Grew w.heap.size m m' b first r new
  hu : Upd (mB M so m) w wr
theorem Adds.keep (h : Adds w m M so fr sl b first r wr m' new) (hb : Below wr.heap.size wr w') : Adds w m M so fr sl b first r w' m' new := ⟨h.mem.keep hb, h.gr, h.hu.trans (Upd.below hb)⟩
theorem Adds.next (h : Adds w m M so fr sl b first r wr m' new) (h0 : MemG w M so fr sl m) {s : Int} (hs : m.S s = some b) {w1 w2 : World} {v : Value} (hm : MemG w1 M so fr sl (m'.add v g (fun _ => 0))) (hg : wr.heap.size ≤ g) (hv : v.ownBlock = m'.pv.ownBlock ∨ ∃ x, wr.heap.size ≤ x ∧ v.ownBlock = some x) (hu : Upd (fun k => k = M ∨ m'.pv.ownBlock = some k) wr w1)
    (hi : IMap w2 b (m'.nF b + 1) (fun j => if j = first + new.length then some (g, r) else m'.F b j)) (hg2 : w1.grownBy w2 (some b)) : ∃ m'', Adds w m M so fr sl b first r w2 m'' (new ++ [g]) := by
  have hs' : (m'.add v g (fun _ => 0)).S s = some b := by show m'.S s = _; rw [h.gr.S]; exact hs
  have hsz := h.hu.size
  have hng : ¬ g ∈ new := fun q => by
    have := h.mem.lt (.inr (.inr (.inr (.inr (by rw [h.gr.pl]; exact List.mem_append.2 (.inr q))))))
    omega
  have hub := Upd.grown hg2 (S := fun k => k = b) rfl
  have hlt0 : b < w.heap.size := h0.lt (.inr (.inr (.inr (.inl ⟨s, hs⟩))))
  refine ⟨_, hm.space hs' hub hi, h.gr.next (by omega) ?_ hng, ?_⟩
  · rcases hv with q | ⟨x, q1, q2⟩
    · exact .inl q
    · exact .inr ⟨x, by omega, q2⟩
  · refine (h.hu.trans' hu (fun k hk e => ?_)).trans' hub (fun k hk e => .inr (.inr (.inr (.inl ⟨s, by rw [hs, e]⟩))))
    rcases e with e | e
    · exact .inl e
    · rcases h.gr.pv with q | ⟨x, q1, q2⟩
      · exact .inr (.inr (.inl (by rw [← q]; exact e)))
      · rw [q2] at e; injection e with e; omega
theorem add_more (h : Adds w m M so fr sl b first r wr m' new) (h0 : MemG w M so fr sl m) (hc : (m.pl.countP m.h : Int) + new.length < fr) (hl : m.pl.length + new.length < 100000) : Calls Tryz.prog 85 #[.pointer (some ⟨M, 0, none⟩), .agg (by16 fun _ => 0)] wr fun e w' => ∃ g v, e = .returned (.pointer (some ⟨g, 0, none⟩)) ∧ wr.heap.size ≤ g ∧ MemG w' M so fr sl (m'.add v g (fun _ => 0)) ∧ (v.ownBlock = m'.pv.ownBlock ∨ ∃ b, wr.heap.size ≤ b ∧ v.ownBlock = some b) ∧ Upd (fun k => k = M ∨ m'.pv.ownBlock = some k) wr w' := by
  have := h.gr.count (fun g hg => h0.lt (.inr (.inr (.inr (.inr hg)))))
  exact addPg_is h.mem _ (by omega) (by rw [h.gr.pl, List.length_append]; omega)
theorem adds_put {w1 : World} {v : Value} {s : Int} (hm : MemG w1 M so fr sl (m'.add v g (fun _ => 0))) (hs : m'.S s = some b) {i : Int} (hi : (Lit.int .i64 i).wf = true) (hn : m'.nF b < 100000) : ∃ w', (Instr.mapUpdate 210 (.map (some b)) (.int .i64 i) (.agg #[.pointer (some ⟨g, 0, none⟩), .int .i64 r])).run Tryz.prog w1 = .ok () w' ∧ IMap w' b (m'.nF b + 1) (fun j => if j = i then some (g, r) else m'.F b j) ∧ w1.grownBy w' (some b) :=
  (hm.im s b hs).put hi (by show m'.nF b < _; unfold maxLen; omega) g r
theorem Adds.four (h : Adds w m M so fr sl b first r wr m' new) : wr.cell? ⟨M, 4, none⟩ = some (.map (some so)) := h.mem.m4
theorem Adds.look (h : Adds w m M so fr sl b first r wr m' new) {s : Int} (hs : m.S s = some b) (hwf : (Lit.int .i64 s).wf = true) : (Instr.lookup 131 (.map (some so)) (.int .i64 s) false).run Tryz.prog wr = .ok (.map (some b)) wr := by
  have l1 := h.mem.om.look hwf
  rw [h.gr.S, hs] at l1
  exact l1
attribute [local go_sem ↓] bd_16
set_option maxRecDepth 100000 in
set_option maxHeartbeats 1000000 in
theorem mapG_is (h : MemG w M so fr sl m) {s a r : Int} {n : Nat} (hs : m.S s = some b) (hwf : (Lit.int .i64 s).wf = true) (ha : 0 ≤ a) (hn : 1 ≤ n) (hn' : (n : Int) ≤ 64 - a) (hr : 0 ≤ r) (hr' : r ≤ 7) (hfree : ∀ k, k < n → m.F b (a + (k : Nat)) = none)
    (hf : 0 ≤ fr ∧ fr ≤ 1000) (hsl : 0 ≤ sl ∧ sl ≤ 1000) (hc : (m.pl.countP m.h : Int) + n ≤ fr) (hl : (m.pl.length : Int) + n ≤ fr + sl) (hnF : m.nF b < 10000) :
    Calls Tryz.prog 180 #[.pointer (some ⟨M, 0, none⟩), .int .i64 s, .int .i64 a, .int .i64 n, .int .i64 r] w fun e w' => e = .returned (.int .i64 0) ∧ ∃ m' new, new.length = n ∧ Adds w m M so fr sl b a r w' m' new := by
  have HSP := Lib.hid (spanG_is h hs hwf (a := a) (n := n) (r := r) ha (by omega) (by omega) hn' hr hr')
  have HM := Lib.hid h
  have HA : Hid (Adds w m M so fr sl b a r w m []) := Lib.hid ⟨h, Grew.start _ _ _ _ _, Upd.refl _ _⟩
  have HRO := Lib.hid (fun wr m' (q : Adds w m M so fr sl b a r wr m' []) => roomG_is q.mem n (by omega) hf hsl (by rw [q.gr.pl]; simp; omega))
  have HL := Lib.hid (And.intro hl (And.intro hc (And.intro hnF (And.intro hf.2 hsl.2))))
  have HF := Lib.hid hfree
  have HS := Lib.hid (And.intro hs hwf)
  have n64 : (n : Int) ≤ 64 := by omega
  have a64 : a ≤ 64 := by omega
  have a0 := ha
  have HN := Lib.hid hn'
  clear h hs hwf ha hn hn' hr hr' hfree hf hsl hc hl hnF
  go_enter Tryz.func180, Tryz.ntmps180
  go_upto_region 4 with (go_at_call 82; refine HSP.out.mono ?_; rintro e1 w1 ⟨rfl, rfl⟩)
  clear HSP
  go_wp2_with fail
  go_loopw [26] (fun kv wr => ∃ k : Nat, k ≤ n ∧ kv = .int .i64 k ∧ Hid (Adds w m M so fr sl b a r wr m [])) (fun kv _ => n - (intOf kv).toNat)
  case atStart => exact ⟨0, Nat.zero_le _, rfl, HA⟩
  case round =>
    clear HA
    obtain ⟨k, hk0, rfl, HS1⟩ := hrel
    by_cases hk : k < n
    · have i1 : (k : Int) < n := by omega
      have m4 := HS1.out.four
      have l1 := HS1.out.look HS.out.1 HS.out.2
      have y1 : IntKind.i64.wrap (a + (k : Int)) = a + k := IntWalk.i64_in _ (by omega)
      have l2 := (HS1.out.mem.im s b HS.out.1).look_ok (k := a + k) (WalkArith.wf_i64 (by omega))
      rw [HF.out k hk] at l2
      change _ = Result.ok (Value.tuple #[.agg #[.pointer none, .int .i64 0], .bool false]) wr at l2
      have HK := Lib.hid (HS1.out.keep (Go.Joins.below_alloc1 wr (.cells #[.pointer none, .int .i64 0] 222)))
      clear HS1
      go_wp2_with fail
      go_roundw
      case rel => exact ⟨k + 1, by omega, by go_num, HK⟩
      case measure => simp [intOf]; omega
    · obtain rfl : k = n := by omega
      have HRO2 := Lib.hid (HRO.out wr m HS1.out)
      rw [show decide ((k : Int) ≤ fr + sl - m.pl.length) = true by simp; have := HL.out.1; omega] at HRO2
      go_upto_region 13 with (go_at_call 84; refine HRO2.out.mono ?_; rintro e2 w2 ⟨rfl, hb2⟩)
      have HS2 := Lib.hid (HS1.out.keep hb2)
      clear HS1 HRO HRO2 hb2
      go_wp2_with fail
      go_loopw [49] (fun jv wr => ∃ j m' new, j ≤ k ∧ jv = .int .i64 (j : Nat) ∧ Hid (new.length = j ∧ Adds w m M so fr sl b a r wr m' new)) (fun jv _ => k - (intOf jv).toNat)
      case atStart => exact ⟨0, m, [], Nat.zero_le _, rfl, Lib.hid ⟨rfl, HS2.out⟩⟩
      case round =>
        clear HS2
        obtain ⟨j, m', new, hj0, rfl, HS3⟩ := hrel
        by_cases hj : j < k
        · have i1 : (j : Int) < k := by omega
          have HS4 := Lib.hid (HS3.out.2.keep (w' := wr.drew) (Below.refl _ _).drew)
          have HADD := Lib.hid (add_more HS4.out HM.out (by have := HL.out.2.1; have := HS3.out.1; omega) (by have := HS3.out.1; have := HL.out.2.2.2; have := HL.out.1; omega))
          have HWF : Hid ((Lit.int .i64 (a + (j : Int))).wf = true) := Lib.hid (WalkArith.wf_i64 (by omega))
          have HE : Hid (a + (j : Int) = a + (new.length : Int)) := Lib.hid (by rw [HS3.out.1])
          have HNF : Hid (m'.nF b < 100000) := Lib.hid (by rw [HS3.out.2.gr.nF, fup_same]; have := HL.out.2.2.1; have := HS3.out.1; omega)
          have y1 : IntKind.i64.wrap (a + (j : Int)) = a + j := IntWalk.i64_in _ (by omega)
          have hbz := by_zero
          have HJ : Hid (new.length = j) := Lib.hid HS3.out.1
          have HS0 := Lib.hid (And.intro HS4.out.four (HS4.out.look HS.out.1 HS.out.2))
          have HSS : Hid (m'.S s = some b) := Lib.hid (by rw [HS4.out.gr.S]; exact HS.out.1)
          clear HS3
          go_upto_region 16 with fail
          go_region_held3 (fun wx => wx.cell? ⟨M, 4, none⟩ = some (.map (some so)) ∧ (Instr.lookup 131 (.map (some so)) (.int .i64 s) false).run Tryz.prog wx = .ok (.map (some b)) wx) (first | assumption | exact HS0.out | exact hS4.out | exact Hid.out ‹_› | go_keep)
            ((go_at_call 85; (with_reducible refine HADD.out.mono ?_); rintro e3 w3 ⟨g3, v3, rfl, hg3, hm3, hv3, hu3⟩; obtain ⟨w4, hup, hi4, hgr4⟩ := adds_put hm3 HSS.out HWF.out HNF.out; obtain ⟨m5, hN⟩ := HS4.out.next HM.out HS.out.1 hm3 hg3 hv3 hu3 (by rw [← HE.out]; exact hi4) hgr4; have HN5 := Lib.hid hN; have hS : w3.cell? ⟨M, 4, none⟩ = some (.map (some so)) ∧ (Instr.lookup 131 (.map (some so)) (.int .i64 s) false).run Tryz.prog w3 = .ok (.map (some b)) w3 := ⟨hm3.m4, by have l1 := hm3.om.look HS.out.2; rw [show (m'.add v3 g3 (fun _ => 0)).S s = some b from HSS.out] at l1; exact l1⟩; have hS4 := Lib.hid (And.intro HN5.out.four (HN5.out.look HS.out.1 HS.out.2)); clear hm3 hg3 hv3 hu3 hi4 hgr4 hN))
          all_goals clear hup hS
          · go_wp2_with fail
            go_roundw
            case rel => exact ⟨j + 1, m5, _, by omega, by go_num, Lib.hid ⟨by rw [List.length_append, HJ.out]; rfl, HN5.out⟩⟩
            case measure => simp [intOf]; omega
          · go_wp2_with fail
            go_roundw
            case rel => exact ⟨j + 1, m5, _, by omega, by go_num, Lib.hid ⟨by rw [List.length_append, HJ.out]; rfl, HN5.out⟩⟩
            case measure => simp [intOf]; omega
        · obtain rfl : j = k := by omega
          go_wp2_with fail
          go_ret
          exact ⟨rfl, _, _, HS3.out.1, HS3.out.2⟩
end
end Go.Proofs.YtnbhohaphmilmaaGreatDoor
namespace Go.Proofs.YtnbhohaphmilmaaGreatDoor
open Go.RowKit Go.Maps
set_option linter.unusedVariables false
set_option linter.unusedSimpArgs false
def ptG : Nat → Value := fun g => .pointer (some ⟨g, 0, none⟩)
/-- what stands at place k where the page at i is struck, and those up to j are moved -/
def sh (pl : List Nat) (i j k : Nat) : Option Nat := if k < i then pl[k]? else if k + 1 < j then pl[k + 1]? else pl[k]?
theorem nodup_inj {l : List Nat} (h : l.Nodup) {i j : Nat} (hi : i < l.length) (hj : j < l.length) (e : l[i] = l[j]) : i = j := by
  rcases Nat.lt_trichotomy i j with q | q | q
  · exact absurd e (List.pairwise_iff_getElem.1 h i j hi hj q)
  · exact q
  · exact absurd e.symm (List.pairwise_iff_getElem.1 h j i hj hi q)
section
variable {w w' : World} {M so g b eb : Nat} {fr sl : Int} {m : MS} {pl : List Nat}
/-- the pages' rows lie there -/
def Rws (w : World) (pl : List Nat) : Prop := ∀ x, x ∈ pl → ∃ C, Row w x 136 C
theorem eq_pg {x : Nat} (hx : ∃ C, Row w x 136 C) (hg : ∃ C, Row w g 136 C) : (binOp .eql 137 (.pointer (some ⟨x, 0, none⟩)) (.pointer (some ⟨g, 0, none⟩))).run Tryz.prog w = .ok (.bool (decide (x = g))) w := by
  obtain ⟨j, hj, hs⟩ : ∃ j, Tryz.prog.info? 136 = some j ∧ j.size ≠ 0 := by
    have h1 : (Tryz.prog.info? 136).map (·.size) = some 19 := by kernel_rfl
    cases hq : Tryz.prog.info? 136 with
    | none => rw [hq] at h1; cases h1
    | some j => rw [hq] at h1; have h2 : j.size = 19 := Option.some.inj h1; exact ⟨j, rfl, by rw [h2]; decide⟩
  obtain ⟨C, hC⟩ := hx
  obtain ⟨D, hD⟩ := hg
  by_cases e : x = g
  · subst e
    rw [run_eql_ptr_same w _ Tryz.underlying137 hj]
    simp
  · rw [run_eql_ptr_other (a := ⟨x, 0, none⟩) (b := ⟨g, 0, none⟩) w Tryz.underlying137 hj hs (by intro q; injection q with q; exact e q) hC hD]
    simp [e]
set_option maxRecDepth 100000 in
set_option maxHeartbeats 400000 in
theorem clo_is (c0 : w.cell? ⟨eb, 0, none⟩ = some (.pointer (some ⟨g, 0, none⟩))) {x : Nat} (hx : ∃ C, Row w x 136 C) (hg : ∃ C, Row w g 136 C) : Calls Tryz.prog 149 #[.pointer (some ⟨x, 0, none⟩), .pointer (some ⟨eb, 0, none⟩)] w fun e w' => e = .returned (.bool (decide (x = g))) ∧ w = w' := by
  have he := eq_pg hx hg
  generalize decide (x = g) = q at *
  clear hx hg
  go_enter Tryz.func149, Tryz.ntmps149
  go_wp2_with fail
  go_ret
  exact ⟨rfl, rfl⟩
set_option maxRecDepth 100000 in
set_option maxHeartbeats 400000 in
theorem idxPg_is {cap : Nat} {cur : Array Value} (hr : Row w b 137 cur) (hcur : ∀ k, k < pl.length → cur[k]? = (pl[k]?).map ptG) (hl : pl.length ≤ 100000) (c0 : w.cell? ⟨eb, 0, none⟩ = some (.pointer (some ⟨g, 0, none⟩))) {i : Nat} (hi : pl[i]? = some g) (hnd : pl.Nodup) (hrw : Rws w pl) :
    Calls Tryz.prog 223 #[.slice (some ⟨b, 0, none⟩) pl.length cap, .func (.func 149) #[] #[.pointer (some ⟨eb, 0, none⟩)]] w fun e w' => e = .returned (.int .i64 i) ∧ w = w' := by
  have HC := Lib.hid (fun x (hx : x ∈ pl) => clo_is c0 (hrw x hx) (hrw g (List.mem_of_getElem? hi)))
  have HR := Lib.hid (And.intro hr hcur)
  have hmx : (pl.length : Int) ≤ 100000 := by omega
  have hil : i < pl.length := (List.getElem?_eq_some_iff.1 hi).1
  have HI := Lib.hid (And.intro hi hnd)
  obtain ⟨n, hn⟩ : ∃ n, n = pl.length := ⟨_, rfl⟩
  rw [← hn] at hmx hil ⊢
  have HN := Lib.hid hn
  clear hr hcur hl hi hnd c0 hn hrw
  go_enter Tryz.func223, Tryz.ntmps223
  go_wp2_with fail
  go_loop [8] (fun kv => ∃ k : Nat, k ≤ i ∧ kv = .int .i64 k) (fun kv => n - (intOf kv).toNat)
  case atStart => exact ⟨0, Nat.zero_le _, rfl⟩
  case round =>
    obtain ⟨k, hk0, rfl⟩ := hrel
    have i1 : (k : Int) < n := by omega
    obtain ⟨x, hx⟩ : ∃ x, pl[k]? = some x := ⟨pl[k]'(by have := HN.out; omega), List.getElem?_eq_getElem _⟩
    have e0 := (HR.out.1.cell k).trans (HR.out.2 k (by have := HN.out; omega))
    rw [hx] at e0
    change _ = some (Value.pointer (some ⟨x, 0, none⟩)) at e0
    have HCX := Lib.hid (HC.out x (List.mem_of_getElem? hx))
    by_cases hk : k = i
    · subst hk
      have hxg : x = g := by have := HI.out.1; rw [hx] at this; exact Option.some.inj this
      rw [show decide (x = g) = true by simpa using hxg] at HCX
      clear hx hxg
      go_wp2_with (go_at_call 149; refine HCX.out.mono ?_; rintro e1 w1 ⟨rfl, rfl⟩)
      go_ret
      exact ⟨rfl, rfl⟩
    · have hxg : ¬ x = g := fun q => hk (by
        subst q
        obtain ⟨h1, h2⟩ := List.getElem?_eq_some_iff.1 hx
        obtain ⟨h3, h4⟩ := List.getElem?_eq_some_iff.1 HI.out.1
        exact nodup_inj HI.out.2 h1 h3 (h2.trans h4.symm))
      rw [show decide (x = g) = false by simpa using hxg] at HCX
      clear hx hxg
      go_wp2_with (go_at_call 149; refine HCX.out.mono ?_; rintro e1 w1 ⟨rfl, rfl⟩)
      go_round
      case rel => exact ⟨k + 1, by omega, by go_num⟩
      case measure => simp [intOf]; omega
theorem sh_start (i k : Nat) : sh pl i (i + 1) k = pl[k]? := by
  unfold sh
  by_cases h : k < i
  · rw [if_pos h]
  · rw [if_neg h, if_neg (by omega)]
theorem zero_pp (w : World) : (zeroValue 137).run Tryz.prog w = .ok (.pointer none) w := by kernel_rfl
/-- behind all: one page less -/
theorem sh_end {i k : Nat} (hk : k + 1 < pl.length) : sh pl i pl.length k = (pl.eraseIdx i)[k]? := by
  unfold sh
  rw [List.getElem?_eraseIdx]
  by_cases h : k < i
  · rw [if_pos h, if_pos h]
  · rw [if_neg h, if_neg h, if_pos hk]
theorem sh_next {i j k : Nat} (hij : i < j) : sh pl i (j + 1) k = if k = j - 1 then pl[j]? else sh pl i j k := by
  unfold sh
  by_cases h : k < i
  · rw [if_pos h, if_pos h, if_neg (by omega)]
  · rw [if_neg h, if_neg h]
    by_cases e : k = j - 1
    · subst e
      rw [if_pos (by omega), if_pos rfl, show j - 1 + 1 = j by omega]
    · rw [if_neg e]
      by_cases q : k + 1 < j
      · rw [if_pos q, if_pos (by omega)]
      · rw [if_neg q, if_neg (by omega)]
theorem sh_far {i j k : Nat} (h : j ≤ k + 1) (hi : i < j) : sh pl i j k = pl[k]? := by
  unfold sh
  by_cases h' : k < i
  · rw [if_pos h']
  · rw [if_neg h', if_neg (by omega)]
set_option maxRecDepth 100000 in
set_option maxHeartbeats 1000000 in
theorem delPg_is {cap : Nat} {cur : Array Value} (hr : Row w b 137 cur) (hcur : ∀ k, k < pl.length → cur[k]? = (pl[k]?).map ptG) (hcs : cur.size = cap) (hlc : pl.length ≤ cap) (hl : pl.length ≤ 100000) (c0 : w.cell? ⟨eb, 0, none⟩ = some (.pointer (some ⟨g, 0, none⟩))) {i : Nat} (hi : pl[i]? = some g) (hnd : pl.Nodup) (hrw : Rws w pl) (heb : eb ≠ b) (hbp : ¬ b ∈ pl) :
    Calls Tryz.prog 148 #[.slice (some ⟨b, 0, none⟩) pl.length cap, .func (.func 149) #[] #[.pointer (some ⟨eb, 0, none⟩)]] w fun e w' => e = .returned (.slice (some ⟨b, 0, none⟩) (pl.length - 1) cap) ∧ (∃ cur', Row w' b 137 cur' ∧ cur'.size = cap ∧ ∀ k, k + 1 < pl.length → cur'[k]? = ((pl.eraseIdx i)[k]?).map ptG) ∧ Upd (fun k => k = b) w w' := by
  have HIX := Lib.hid (idxPg_is (cap := cap) hr hcur hl c0 hi hnd hrw)
  have HCL := Lib.hid (fun (w2 : World) (hu : Upd (fun k => k = b) w w2) (x : Nat) (hx : x ∈ pl) => clo_is (w := w2) (x := x) (g := g) (eb := eb) ((hu.cell (World.block_lt_of_cell? w _ c0) (fun e => heb e)).trans c0) (by obtain ⟨C, hC⟩ := hrw x hx; exact ⟨C, hC.upd hu (fun e => hbp (e ▸ hx))⟩) (by obtain ⟨C, hC⟩ := hrw g (List.mem_of_getElem? hi); exact ⟨C, hC.upd hu (fun e => hbp (e ▸ List.mem_of_getElem? hi))⟩))
  have hmx : (pl.length : Int) ≤ 100000 := by omega
  have hil : i < pl.length := (List.getElem?_eq_some_iff.1 hi).1
  have HH : Hid (∃ cur', Row w b 137 cur' ∧ cur'.size = cap ∧ ∀ k, k < pl.length → cur'[k]? = (sh pl i (i + 1) k).map ptG) := Lib.hid ⟨cur, hr, hcs, fun k hk => by rw [sh_start]; exact hcur k hk⟩
  have HI := Lib.hid (And.intro hi hnd)
  have hcap : (pl.length : Int) ≤ cap := by omega
  obtain ⟨n, hn⟩ : ∃ n, n = pl.length := ⟨_, rfl⟩
  have HCE := Lib.hid (fun k (hk : k + 1 < pl.length) => sh_end (pl := pl) (i := i) hk)
  rw [← hn] at hmx hil hcap HIX HH HCE hlc ⊢
  have HN := Lib.hid hn
  have hi0 : (i : Int) < n := by omega
  have hne : ((i : Int) == -1) = false := beq_eq_false_iff_ne.2 (by omega)
  have HLC := Lib.hid hlc
  clear hr hcur hl hi hnd c0 hn hrw hcs heb hbp
  go_enter Tryz.func148, Tryz.ntmps148
  go_upto_region 4 with (go_at_call 223; refine HIX.out.mono ?_; rintro e1 w1 ⟨rfl, rfl⟩)
  clear HIX
  go_wp2_with fail
  go_loopw [5, 6] (fun iv jv wr => ∃ j : Nat, i + 1 ≤ j ∧ j ≤ n ∧ jv = .int .i64 j ∧ iv = .int .i64 ((j - 1 : Nat) : Int) ∧ Hid (∃ cur', Row wr b 137 cur' ∧ cur'.size = cap ∧ ∀ k, k < n → cur'[k]? = (sh pl i j k).map ptG) ∧ Hid (Upd (fun k => k = b) w wr)) (fun _ jv _ => n - (intOf jv).toNat)
  case atStart => exact ⟨i + 1, by omega, by omega, by go_num, by go_num, HH, Lib.hid (Upd.refl _ _)⟩
  case round =>
    clear HH
    obtain ⟨j, hj1, hj2, rfl, rfl, HR, HU⟩ := hrel
    obtain ⟨cur', hr', hs', hc'⟩ := HR.out
    obtain ⟨q, rfl⟩ : ∃ q, j = q + 1 := ⟨j - 1, by omega⟩
    rw [show q + 1 - 1 = q by omega]
    by_cases hj : q + 1 < n
    · have j1 : (q : Int) + 1 < n := by omega
      have j0 : (q : Int) < n := by omega
      obtain ⟨x, hx⟩ : ∃ x, pl[q + 1]? = some x := ⟨pl[q + 1]'(by have := HN.out; omega), List.getElem?_eq_getElem _⟩
      have e1 := (hr'.cell (q + 1)).trans (hc' (q + 1) hj)
      rw [sh_far (by omega) (by omega), hx] at e1
      change _ = some (Value.pointer (some ⟨x, 0, none⟩)) at e1
      have hxg : ¬ x = g := fun e => by
        subst e
        obtain ⟨h1, h2⟩ := List.getElem?_eq_some_iff.1 hx
        obtain ⟨h3, h4⟩ := List.getElem?_eq_some_iff.1 HI.out.1
        have := nodup_inj HI.out.2 h1 h3 (h2.trans h4.symm)
        omega
      have HCX := Lib.hid (HCL.out wr HU.out x (List.mem_of_getElem? hx))
      rw [show decide (x = g) = false by simpa using hxg] at HCX
      obtain ⟨y, e2⟩ : ∃ y, wr.cell? ⟨b, q, none⟩ = some y := ⟨_, (hr'.cell q).trans (Array.getElem?_eq_getElem (by have := HLC.out; omega))⟩
      have f2 := hr'.fz q
      have HR2 : Hid (∃ cur', Row (wr.setCell ⟨b, q, none⟩ (.pointer (some ⟨x, 0, none⟩))) b 137 cur' ∧ cur'.size = cap ∧ ∀ k, k < n → cur'[k]? = (sh pl i (q + 1 + 1) k).map ptG) := Lib.hid (by
        refine ⟨cur'.setIfInBounds q (ptG x), by rw [hr'.setCell]; exact hr'.setRow _, by simpa using hs', fun k hk => ?_⟩
        rw [sh_next (by omega), show q + 1 - 1 = q by omega]
        by_cases e : k = q
        · subst e
          rw [if_pos rfl, hx, set_eq _ (by have := HLC.out; omega)]
          rfl
        · rw [if_neg e, set_ne _ e]
          exact hc' k hk)
      have HU2 := Lib.hid (HU.out.trans (Upd.set wr (b := b) (i := q) (.pointer (some ⟨x, 0, none⟩)) (S := fun k => k = b) rfl))
      clear hx hxg hr' hs' hc' HR HU
      go_wp2_with (go_at_call 149; refine HCX.out.mono ?_; rintro e1 w1 ⟨rfl, rfl⟩)
      go_roundw
      case rel => exact ⟨q + 1 + 1, by omega, by omega, by go_num, by go_num, HR2, HU2⟩
      case measure => simp [intOf]; omega
    · obtain rfl : n = q + 1 := by omega
      have i5 : (q : Int) < cap := by have := HLC.out; omega
      have hclr : ∀ c, (Builtin.clear_ #[130] 0 #[.slice (some ⟨b, q, none⟩) 1 c]).run Tryz.prog wr = .ok (.tuple #[]) (wr.setCells b q [.pointer none]) := fun c => Go.Lib.run_clear_slice wr 130 137 0 (.pointer none) Tryz.underlying130 zero_pp rfl rfl b q 1 c (by decide) (fun j hj => by
        obtain rfl : j = 0 := by omega
        rw [Nat.add_zero, hr'.cell, Array.getElem?_eq_getElem (by have := HLC.out; omega)]; rfl) (fun j hj => hr'.fz _)
      have HR2 : Hid (∃ cur', Row (wr.setCells b q [.pointer none]) b 137 cur' ∧ cur'.size = cap ∧ ∀ k, k + 1 < q + 1 → cur'[k]? = ((pl.eraseIdx i)[k]?).map ptG) := Lib.hid (by
        refine ⟨cur'.setIfInBounds q (.pointer none), by show Row (wr.setCell _ _) _ _ _; rw [hr'.setCell]; exact hr'.setRow _, by simpa using hs', fun k hk => ?_⟩
        rw [set_ne _ (by omega), hc' k (by omega), ← HCE.out k (by omega), HN.out])
      have HU2 : Hid (Upd (fun k => k = b) w (wr.setCells b q [.pointer none])) := Lib.hid (HU.out.trans (Upd.set wr (b := b) (i := q) (.pointer none) (S := fun k => k = b) rfl))
      clear hr' hs' hc' HR HU HCL
      go_wp2_with fail
      go_ret
      exact ⟨rfl, HR2.out, HU2.out⟩
theorem eraseIdx_nodup {l : List Nat} (h : l.Nodup) (i : Nat) : (l.eraseIdx i).Nodup := List.Nodup.sublist (List.eraseIdx_sublist _ _) h
/-- the state without a page -/
def MS.less (m : MS) (v : Value) (g i : Nat) : MS := { m with pv := v, pl := m.pl.eraseIdx i, u := fup m.u g 0 }
theorem MS.us (m : MS) (g : Nat) (x : Int) : { m with d := fup m.d g (m.d g), u := fup m.u g x, h := fup m.h g (m.h g) } = { m with u := fup m.u g x } := by
  cases m
  simp only [fup_id _ _ _ rfl]
set_option maxRecDepth 100000 in
set_option maxHeartbeats 1000000 in
theorem letG_is (h : MemG w M so fr sl m) {i : Nat} (hi : m.pl[i]? = some g) (hu1 : m.u g = 1) (hl : m.pl.length ≤ 100000) (r : Int) : Calls Tryz.prog 83 #[.pointer (some ⟨M, 0, none⟩), .agg #[.pointer (some ⟨g, 0, none⟩), .int .i64 r]] w fun e w' => e = .returned (.tuple #[]) ∧ ∃ v, v.ownBlock = m.pv.ownBlock ∧ MemG w' M so fr sl (m.less v g i) ∧ Upd (fun k => k = M ∨ k = g ∨ m.pv.ownBlock = some k) w w' := by
  have hg : g ∈ m.pl := List.mem_of_getElem? hi
  have hil : i < m.pl.length := (List.getElem?_eq_some_iff.1 hi).1
  have hal := Go.Joins.below_alloc1 w (.cells #[.pointer (some ⟨g, 0, none⟩), .int .i64 r] 222)
  have hr1 := row_new w 222 #[.pointer (some ⟨g, 0, none⟩), .int .i64 r]
  have h1 := h.keep hal
  have hge : g ≠ w.heap.size := fun e => by have := h.lt (.inr (.inr (.inr (.inr hg)))); omega
  have hge' : w.heap.size ≠ g := fun e => hge e.symm
  have p1 := h1.pg g hg
  have q16 := p1.us
  rw [hu1] at q16
  have f16 := p1.fz 16
  have e0 : (w.alloc (.cells #[.pointer (some ⟨g, 0, none⟩), .int .i64 r] 222)).cell? ⟨w.heap.size, 0, none⟩ = some (.pointer (some ⟨g, 0, none⟩)) := by rw [hr1.cell]; rfl
  have h2 := h1.page (w' := (w.alloc (.cells #[.pointer (some ⟨g, 0, none⟩), .int .i64 r] 222)).setCell ⟨g, 16, none⟩ (.int .i64 0)) hg (Upd.set _ _ rfl) (p1.users 0)
  rw [MS.us] at h2
  have e2 : ((w.alloc (.cells #[.pointer (some ⟨g, 0, none⟩), .int .i64 r] 222)).setCell ⟨g, 16, none⟩ (.int .i64 0)).cell? ⟨w.heap.size, 0, none⟩ = some (.pointer (some ⟨g, 0, none⟩)) := set_blk hge' e0
  obtain ⟨p, cap, hpv, hlc, hcm, hcell⟩ := h2.cells
  obtain ⟨b, rfl, -⟩ := hcell i g hi
  have hpv : m.pv = .slice (some ⟨b, 0, none⟩) m.pl.length cap := hpv
  have hps := h2.ps
  have hob : m.pv.ownBlock = some b := by rw [hpv]; rfl
  have hrow : ∃ cur, Row ((w.alloc (.cells #[.pointer (some ⟨g, 0, none⟩), .int .i64 r] 222)).setCell ⟨g, 16, none⟩ (.int .i64 0)) b 137 cur ∧ cur.size = cap ∧ ∀ k, k < m.pl.length → cur[k]? = (m.pl[k]?).map ptG := by
    rcases hps.2 with ⟨he, hn⟩ | ⟨g2, c2, cur, he, _, hgg, _, _, hcs, htk⟩
    · have he : m.pv = .slice none 0 0 := he
      rw [hpv] at he; cases he
    · have he : m.pv = .slice (some ⟨g2, 0, none⟩) m.pl.length c2 := he
      rw [hpv] at he
      injection he with he1 he2 he3
      injection he1 with he1
      injection he1 with he1
      subst he1 he3
      refine ⟨cur, hgg, by omega, fun k hk => ?_⟩
      have hk : k < m.pl.length := hk
      have e : (cur.toList.take (m.pl.length * 1))[k]? = (pp m.pl)[k]? := by rw [htk]
      rw [List.getElem?_take, if_pos (by omega)] at e
      rw [Array.getElem?_toList] at e
      rw [e]; simp only [pp, List.getElem?_map]; rfl
  obtain ⟨cur, hr, hcs, hcur⟩ := hrow
  have hbl : b < w.heap.size := h.lt (.inr (.inr (.inl hob)))
  have HDEL := Lib.hid (delPg_is hr hcur hcs hlc hl e2 hi h2.nd (fun x hx => (h2.pg x hx).rw) (by omega) (fun q => (h2.n4 b q).2.2.1 hob))
  have m3 := h2.m3
  rw [show ({ m with u := fup m.u g 0 } : MS).pv = .slice (some ⟨b, 0, none⟩) m.pl.length cap from hpv] at m3
  have HM := Lib.hid h2
  have HB := Lib.hid (And.intro hcm (And.intro hlc hob))
  have hMb : ¬ M = b := fun e => (h2.n2 b hob).1 e.symm
  have HU : Hid (Upd (fun k => k = g) w ((w.alloc (.cells #[.pointer (some ⟨g, 0, none⟩), .int .i64 r] 222)).setCell ⟨g, 16, none⟩ (.int .i64 0))) := Lib.hid ((Upd.below hal).trans (Upd.set _ _ rfl))
  have HI := Lib.hid (And.intro hil h.nd)
  have hmf : ∀ (fn : Fn) (first cap : Array Value) (w : World), (Instr.makeFunc fn first cap).run Tryz.prog w = .ok (.func fn first cap) w := fun _ _ _ _ => rfl
  have q16b : ((w.alloc (.cells #[.pointer (some ⟨g, 0, none⟩), .int .i64 r] 222)).setCell ⟨g, 16, none⟩ (.int .i64 0)).cell? ⟨g, 16, none⟩ = some (.int .i64 0) := set_same q16
  have m3f : ∀ w2, Upd (fun k => k = b) ((w.alloc (.cells #[.pointer (some ⟨g, 0, none⟩), .int .i64 r] 222)).setCell ⟨g, 16, none⟩ (.int .i64 0)) w2 → (∃ v, w2.cell? ⟨M, 3, none⟩ = some v) ∧ w2.frozen? ⟨M, 3, none⟩ = false := fun w2 hu => ⟨⟨_, (hu.cell h2.mlt hMb).trans m3⟩, (hu.frozen h2.mlt hMb).trans (h2.mz 3)⟩
  have HM3 := Lib.hid m3f
  clear h hi hu1 hl hg hil hal h1 p1 h2 hpv hlc hcm hcell hps hob hr hcs hcur hbl m3f hMb
  go_enter Tryz.func83, Tryz.ntmps83
  go_upto_region 2 with fail
  generalize hw2 : (w.alloc (.cells #[.pointer (some ⟨g, 0, none⟩), .int .i64 r] 222)).setCell ⟨g, 16, none⟩ (.int .i64 0) = w2 at *
  clear hw2 hr1 q16 f16 e0
  go_wp2_with (go_at_call 148; refine HDEL.out.mono ?_; rintro e3 w3 ⟨rfl, hx3, hu3⟩; obtain ⟨⟨v3, q3⟩, f3⟩ := HM3.out w3 hu3; have HX3 := Lib.hid hx3; have HU3 := Lib.hid hu3; clear hx3 hu3)
  (try simp only [Exit.inBlock, Exit.then]); first | (refine bodyPost_ret (results_none rfl _ _ _) rfl ?_) | (refine bodyPost_end (results_none rfl _ _ _) rfl ?_)
  obtain ⟨cur', hr3, hs3, hc3⟩ := HX3.out
  have hel : (m.pl.eraseIdx i).length = m.pl.length - 1 := by rw [List.length_eraseIdx, if_pos HI.out.1]
  refine ⟨rfl, .slice (some ⟨b, 0, none⟩) (m.pl.length - 1) cap, HB.out.2.2.symm, ?_, ?_⟩
  · refine HM.out.pages (pl' := m.pl.eraseIdx i) HU3.out (fun k e => by rw [e]; exact HB.out.2.2) ⟨by simp [pp], .inr ⟨b, cap, cur', by rw [hel], Nat.zero_le _, hr3, ?_, HB.out.1, by omega, ?_⟩⟩ (.inl HB.out.2.2.symm) (fun x hx => .inl (List.mem_of_mem_eraseIdx hx)) (eraseIdx_nodup HI.out.2 i)
    · rw [hel]; have := HB.out.2.1; omega
    · apply List.ext_getElem?
      intro k
      rw [List.getElem?_take]
      split
      · rename_i hk
        rw [hel] at hk
        have := hc3 k (by omega)
        rw [Array.getElem?_toList, this]; simp only [pp, List.getElem?_map]; rfl
      · rename_i hk
        rw [List.getElem?_eq_none]
        simp [pp]
        omega
  · exact ((HU.out.mono (fun _ _ e => .inr (.inl e))).trans' HU3.out (fun k _ e => .inr (.inr (by rw [e]; exact HB.out.2.2)))).trans (Upd.set _ _ (.inl rfl))
end
end Go.Proofs.YtnbhohaphmilmaaGreatDoor
