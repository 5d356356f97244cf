/- The walks of space: here, ask, room, Make, at any memory. The walks of space: add, span, at any memory. -/
import Derived.Test.YtnbhohaphmilmaaGreatDoorSprA
import Derived.BigQuiet
import Derived.Deep.RegionHeld3
namespace Go.Proofs.YtnbhohaphmilmaaGreatDoor
open Go.RowKit Go.Maps
set_option linter.unusedVariables false
set_option linter.unusedSimpArgs false
theorem pp_get {l : List Nat} {i g : Nat} (h : l[i]? = some g) : (pp l)[i]? = some (.pointer (some ⟨g, 0, none⟩)) := by simp [pp, h]
theorem own_form1 {w : World} {B e n : Nat} {v : Value} {l : List Value} (h : w.ownsRow B e 1 v n l) : ∃ p cap, v = .slice p n cap ∧ n ≤ cap ∧ cap ≤ maxLen := by
  rcases h.2 with ⟨rfl, hn⟩ | ⟨g, cap', cur, rfl, _, _, h1, h2, _⟩
  · exact ⟨none, 0, by rw [hn], by omega, by unfold maxLen; omega⟩
  · exact ⟨_, cap', rfl, h1, h2⟩
theorem countP_take (l : List Nat) (h : Nat → Bool) {k g : Nat} (hg : l[k]? = some g) : (l.take (k + 1)).countP h = (l.take k).countP h + (if h g then 1 else 0) := by
  have hk := (List.getElem?_eq_some_iff.1 hg).1
  rw [List.take_add_one, hg]
  simp
section
variable {w w' : World} {M so g : Nat} {fr sl : Int} {m : MS}
theorem MemG.cells (h : MemG w M so fr sl m) : ∃ p cap, m.pv = .slice p m.pl.length cap ∧ m.pl.length ≤ cap ∧ cap ≤ maxLen ∧ ∀ i g, m.pl[i]? = some g → ∃ b, p = some ⟨b, 0, none⟩ ∧ w.cell? ⟨b, i, none⟩ = some (.pointer (some ⟨g, 0, none⟩)) := by
  obtain ⟨p, cap, e, h1, h2⟩ := own_form1 h.ps
  refine ⟨p, cap, e, h1, h2, fun i g hi => ?_⟩
  have hps := h.ps
  rw [e] at hps
  obtain ⟨b, rfl, -, -, -, -⟩ := own_block hps (by have := (List.getElem?_eq_some_iff.1 hi).1; omega)
  refine ⟨b, rfl, ?_⟩
  have := hps.cells (g := b) rfl i _ (pp_get hi)
  rw [Addr.add_lit, Nat.zero_add] at this
  exact this
set_option maxRecDepth 100000 in
set_option maxHeartbeats 400000 in
theorem hereG_is (h : MemG w M so fr sl m) : Calls Tryz.prog 51 #[.pointer (some ⟨M, 0, none⟩)] w fun e w' => e = .returned (.int .i64 (m.pl.countP m.h : Nat)) ∧ w = w' := by
  obtain ⟨p, cap, hpv, hlc, hcm, hcell⟩ := h.cells
  have m3 := h.m3
  rw [hpv] at m3
  have HC := Lib.hid hcell
  have HP := Lib.hid h.pg
  have hmx : (m.pl.length : Int) ≤ 9223372036854775807 := by unfold maxLen at hcm; omega
  obtain ⟨n, hn⟩ : ∃ n, n = m.pl.length := ⟨_, rfl⟩
  rw [← hn] at m3 hmx
  have HN := Lib.hid hn
  clear h hpv hlc hcm hcell hn
  go_enter Tryz.func51, Tryz.ntmps51
  go_wp2_with fail
  go_loop [3, 11] (fun nv kv => ∃ k : Nat, k ≤ n ∧ kv = .int .i64 k ∧ nv = .int .i64 ((m.pl.take k).countP m.h : Nat)) (fun _ kv => n - (intOf kv).toNat)
  case atStart => exact ⟨0, Nat.zero_le _, rfl, by simp⟩
  case round =>
    obtain ⟨k, hk0, rfl, rfl⟩ := hrel
    by_cases hk : k < n
    · have i1 : (k : Int) < n := by omega
      obtain ⟨g, hg⟩ : ∃ g, m.pl[k]? = some g := ⟨m.pl[k]'(by have := HN.out; omega), List.getElem?_eq_getElem _⟩
      obtain ⟨b, rfl, e0⟩ := HC.out k g hg
      have e1 := (HP.out g (List.mem_of_getElem? hg)).hr
      have HCT := Lib.hid (countP_take m.pl m.h hg)
      obtain ⟨q, hq⟩ : ∃ q, q = (m.pl.take k).countP m.h := ⟨_, rfl⟩
      have hqk : q ≤ k := by rw [hq]; exact Nat.le_trans List.countP_le_length (by rw [List.length_take]; omega)
      rw [← hq] at HCT ⊢
      have y5 : IntKind.i64.wrap ((q : Int) + 1) = q + 1 := IntWalk.i64_in _ (by omega)
      clear hg hq
      cases hh : m.h g
      · rw [hh] at e1 HCT
        go_wp2_with fail
        go_round
        case rel => exact ⟨k + 1, by omega, by go_num, by rw [HCT.out]; simp⟩
        case measure => simp [intOf]; omega
      · rw [hh] at e1 HCT
        go_wp2_with fail
        go_round
        case rel => exact ⟨k + 1, by omega, by go_num, by rw [HCT.out]; go_num⟩
        case measure => simp [intOf]; omega
    · obtain rfl : k = n := by omega
      go_wp2_with fail
      go_ret
      exact ⟨ret_int (by rw [List.take_of_length_le (by rw [← HN.out]; omega)]), rfl⟩
set_option maxRecDepth 100000 in
set_option maxHeartbeats 400000 in
theorem roomG_is (h : MemG w M so fr sl m) (n : Int) (h0 : -1000 ≤ n) (hf : 0 ≤ fr ∧ fr ≤ 1000) (hs : 0 ≤ sl ∧ sl ≤ 1000) (hl : m.pl.length ≤ 100000) : Calls Tryz.prog 84 #[.pointer (some ⟨M, 0, none⟩), .int .i64 n] w fun e w' => e = .returned (.bool (decide (n ≤ fr + sl - m.pl.length))) ∧ Below w.heap.size w w' := by
  obtain ⟨p, cap, hpv, hlc, hcm, -⟩ := h.cells
  have m0 := h.m0
  have m1 := h.m1
  have m3 := h.m3
  rw [hpv] at m3
  have y0 : IntKind.i64.wrap (fr + sl) = fr + sl := IntWalk.i64_in _ (by omega)
  have y1 : IntKind.i64.wrap (fr + sl - (m.pl.length : Int)) = fr + sl - m.pl.length := IntWalk.i64_in _ (by omega)
  generalize m.pl.length = k at *
  clear h hpv hlc hcm
  go_enter Tryz.func84, Tryz.ntmps84
  go_wp2_with fail
  go_quiet (fail)
  go_wp2_with fail
  go_ret
  exact ⟨rfl, below_drewN (Below.refl _ _) _⟩
theorem MS.askd (m : MS) (g : Nat) : { m with d := fup m.d g (m.d g), u := fup m.u g (m.u g), h := fup m.h g (m.h g) } = m := by
  cases m
  simp only [fup_id _ _ _ rfl]
theorem MS.askd2 (m : MS) (g : Nat) : { m with d := fup m.d g (m.d g), u := fup m.u g (m.u g), h := fup m.h g true } = { m with h := fup m.h g true } := by
  cases m
  simp only [fup_id _ _ _ rfl]
set_option maxRecDepth 100000 in
set_option maxHeartbeats 400000 in
theorem askG_is (h : MemG w M so fr sl m) (hg : g ∈ m.pl) (hh : m.h g = true ∨ (m.pl.countP m.h : Int) < fr) : Calls Tryz.prog 150 #[.pointer (some ⟨M, 0, none⟩), .pointer (some ⟨g, 0, none⟩)] w fun e w' => e = .returned (.tuple #[]) ∧ MemG w' M so fr sl { m with h := fup m.h g true } ∧ Upd (fun k => k = M ∨ k = g) w w' := by
  obtain ⟨ck, c2⟩ := h.m2
  have hz := h.mz
  have hp := h.pg g hg
  obtain ⟨ak, q18⟩ := hp.ak
  have q17 := hp.hr
  have hpz := hp.fz
  have hne : M ≠ g := fun e => (h.n4 g hg).1 e.symm
  have hne' : g ≠ M := (h.n4 g hg).1
  have r17 : ∀ x, (w.setCell ⟨M, 2, none⟩ x).cell? ⟨g, 17, none⟩ = some (.bool (m.h g)) := fun x => set_blk hne' q17
  have r18 : ∀ x, (w.setCell ⟨M, 2, none⟩ x).cell? ⟨g, 18, none⟩ = some (.int .i64 ak) := fun x => set_blk hne' q18
  have rz : ∀ x j, (w.setCell ⟨M, 2, none⟩ x).frozen? ⟨g, j, none⟩ = false := fun x j => by rw [World.frozen?_setCell]; exact hpz j
  have HR := Lib.hid (fun x y => (h.clock x).page (w' := (w.setCell ⟨M, 2, none⟩ (.int .i64 x)).setCell ⟨g, 18, none⟩ (.int .i64 y)) hg (Upd.set _ _ rfl) (((h.clock x).pg g hg).asked y))
  have HT := Lib.hid (fun x y => (Upd.set w (b := M) (i := 2) (.int .i64 x) (S := fun k => k = M ∨ k = g) (.inl rfl)).trans (Upd.set (w.setCell ⟨M, 2, none⟩ (.int .i64 x)) (b := g) (i := 18) (.int .i64 y) (S := fun k => k = M ∨ k = g) (.inr rfl)))
  have HG := Lib.hid hg
  have HHH := Lib.hid hh
  clear h hp hg hh
  cases hb : m.h g
  · have hlt : (m.pl.countP m.h : Int) < fr := by rcases HHH.out with q | q; rw [hb] at q; cases q; exact q
    rw [hb] at q17 r17
    go_enter Tryz.func150, Tryz.ntmps150
    go_upto_region 3 with fail
    have hm := HR.out (wrap64 (ck + 1)) (wrap64 (ck + 1))
    rw [MS.askd] at hm
    have HU := Lib.hid (HT.out (wrap64 (ck + 1)) (wrap64 (ck + 1)))
    generalize (w.setCell ⟨M, 2, none⟩ (.int .i64 (wrap64 (ck + 1)))).setCell ⟨g, 18, none⟩ (.int .i64 (wrap64 (ck + 1))) = w2 at *
    have c0 := hm.m0
    have HHE : Hid (∀ k, Calls Tryz.prog 51 #[.pointer (some ⟨M, 0, none⟩)] (w2.drewN k) fun e w' => e = .returned (.int .i64 (m.pl.countP m.h : Nat)) ∧ w' = w2.drewN k) := Lib.hid (fun k => (hereG_is (hm.keep (below_drewN (Below.refl _ _) k))).mono (fun e w' ⟨h1, h2⟩ => ⟨h1, h2.symm⟩))
    have HM := Lib.hid hm
    have hp2 := hm.pg g HG.out
    have c17 := hp2.hr
    rw [hb] at c17
    have f17 := hp2.fz 17
    have HF : Hid (∀ nq, MemG ((w2.drewN nq).setCell ⟨g, 17, none⟩ (.bool true)) M so fr sl { m with h := fup m.h g true }) := Lib.hid (fun nq => by
      have h1 := hm.keep (w' := w2.drewN nq) (below_drewN (Below.refl _ _) nq)
      have h2 := h1.page (w' := (w2.drewN nq).setCell ⟨g, 17, none⟩ (.bool true)) HG.out (Upd.set _ _ rfl) ((h1.pg g HG.out).here true)
      rwa [MS.askd2] at h2)
    have hnq : ((m.pl.countP m.h : Int) == fr) = false := by simp; omega
    clear hm r17 r18 rz c2 hz q18 q17 hpz hp2 hlt HR HT HHH
    generalize (m.pl.countP m.h) = cn at *
    go_quiet (first | (go_at_call 51; refine Calls.quiet_of_same (HHE.out _)))
    go_wp2_with fail
    (try simp only [Exit.inBlock, Exit.then]); first | (refine bodyPost_ret (results_none rfl _ _ _) rfl ?_) | (refine bodyPost_end (results_none rfl _ _ _) rfl ?_)
    exact ⟨rfl, HF.out _, (HU.out.trans (Upd.drewN _ _)).trans (Upd.set _ _ (.inr rfl))⟩
  · rw [hb] at q17 r17
    have HE : Hid ({ m with h := fup m.h g true } = m) := Lib.hid (by rw [fup_id _ _ _ hb])
    go_enter Tryz.func150, Tryz.ntmps150
    go_wp2_with fail
    (try simp only [Exit.inBlock, Exit.then]); first | (refine bodyPost_ret (results_none rfl _ _ _) rfl ?_) | (refine bodyPost_end (results_none rfl _ _ _) rfl ?_)
    refine ⟨rfl, ?_, HT.out _ _⟩
    rw [HE.out]
    have hm := HR.out (wrap64 (ck + 1)) (wrap64 (ck + 1))
    rwa [MS.askd] at hm
theorem map_no_nil (w : World) (b : Nat) : (binOp .eql 210 (.map (some b)) (.map none)).run Tryz.prog w = .ok (.bool false) w := by kernel_rfl
/-- the state with a space that is new -/
def MS.made (m : MS) (s : Int) (b : Nat) : MS := { m with nS := m.nS + 1, S := fun k => if k = s then some b else m.S k, nF := fup m.nF b 0, F := fup m.F b (fun _ => none) }
set_option maxRecDepth 100000 in
set_option maxHeartbeats 400000 in
theorem makeG_is (h : MemG w M so fr sl m) {s : Nat} (h1 : 1 ≤ s) (h16 : s ≤ 16) (h0 : m.S s = none) (hb : ∀ j : Nat, 1 ≤ j → j < s → ∃ b, m.S j = some b) (hn : m.nS < 1000000) : Calls Tryz.prog 32 #[.pointer (some ⟨M, 0, none⟩)] w fun e w' => e = .returned (.tuple #[.int .i64 s, .int .i64 0]) ∧ MemG w' M so fr sl (m.made s w.heap.size) ∧ Upd (fun k => k = so) w w' := by
  have hmm := @run_makeMap Tryz.prog
  have m4 := h.m4
  have HH := Lib.hid h
  have HB := Lib.hid hb
  have H0 := Lib.hid (And.intro h0 hn)
  have hs16 : (s : Int) ≤ 16 := by omega
  clear h hb h0 hn
  go_enter Tryz.func32, Tryz.ntmps32
  go_wp2_with fail
  go_loop [4] (fun kv => ∃ k : Nat, 1 ≤ k ∧ k ≤ s ∧ kv = .int .i64 k) (fun kv => 17 - (intOf kv).toNat)
  case atStart => exact ⟨1, by omega, h1, rfl⟩
  case round =>
    obtain ⟨k, k1, k2, rfl⟩ := hrel
    have i0 : (k : Int) ≤ 16 := by omega
    by_cases hk : k < s
    · obtain ⟨b, hb⟩ := HB.out k k1 hk
      have l1 := HH.out.om.look (k := k) (WalkArith.wf_i64 (by omega))
      rw [hb] at l1
      change _ = Result.ok (Value.map (some b)) w at l1
      have l2 := map_no_nil w b
      clear hb
      go_wp2_with fail
      go_round
      case rel => exact ⟨k + 1, by omega, by omega, by go_num⟩
      case measure => simp [intOf]; omega
    · obtain rfl : k = s := by omega
      have l1 := HH.out.om.look (k := k) (WalkArith.wf_i64 (by omega))
      rw [H0.out.1] at l1
      change _ = Result.ok (Value.map none) w at l1
      have l2 := map_is_nil w
      have hg0 := World.grownBy_alloc w (.map #[] 0) none
      have hso : so < w.heap.size := HH.out.lt (.inr (.inl rfl))
      obtain ⟨w2, hup, om2, hg2⟩ := (HH.out.om.kept hg0 (by simp)).put (k := k) (WalkArith.wf_i64 (by omega)) (by have := H0.out.2; unfold maxLen; omega) w.heap.size
      have hup : (Instr.mapUpdate 131 (.map (some so)) (.int .i64 k) (.map (some w.heap.size))).run Tryz.prog (w.alloc (.map #[] 0)) = .ok () w2 := hup
      have HI := Lib.hid ((IMap.made w).kept hg2 (by intro e; injection e with e; omega))
      have HG := Lib.hid (show w.grownBy w2 (some so) from grown_trans (World.grownBy_alloc w (.map #[] 0) (some so)) hg2)
      have HO := Lib.hid om2
      clear om2 hg2 hg0 hso
      go_wp2_with fail
      go_ret2
      exact ⟨rfl, HH.out.born H0.out.1 (Nat.le_refl _) (Upd.grown HG.out rfl) HO.out HI.out, Upd.grown HG.out rfl⟩
end
end Go.Proofs.YtnbhohaphmilmaaGreatDoor
namespace Go.Proofs.YtnbhohaphmilmaaGreatDoor
open Go.RowKit Go.Maps
set_option linter.unusedVariables false
set_option linter.unusedSimpArgs false
def appP := Builtin.append_ #[130, 130] 130
theorem appP_eq : Builtin.append_ #[130, 130] 130 = appP := rfl
theorem infoPg : (Tryz.prog.info? 137).map (fun i => (i.zero, i.size, i.bytes)) = some (some (.pointer none), 1, 8) := by kernel_rfl
/-- sixteen bytes -/
def by16 (d : Nat → Int) : Array Value := #[.int .u8 (d 0), .int .u8 (d 1), .int .u8 (d 2), .int .u8 (d 3), .int .u8 (d 4), .int .u8 (d 5), .int .u8 (d 6), .int .u8 (d 7), .int .u8 (d 8), .int .u8 (d 9), .int .u8 (d 10), .int .u8 (d 11), .int .u8 (d 12), .int .u8 (d 13), .int .u8 (d 14), .int .u8 (d 15)]
def pgA (d : Nat → Int) : Array Value := #[.int .u8 (d 0), .int .u8 (d 1), .int .u8 (d 2), .int .u8 (d 3), .int .u8 (d 4), .int .u8 (d 5), .int .u8 (d 6), .int .u8 (d 7), .int .u8 (d 8), .int .u8 (d 9), .int .u8 (d 10), .int .u8 (d 11), .int .u8 (d 12), .int .u8 (d 13), .int .u8 (d 14), .int .u8 (d 15), .int .i64 1, .bool false, .int .i64 0]
theorem ld_16 (v : Value) : Instr.loadAt 134 v = ldR 134 v := rfl
theorem bd_pg (ps : Array (Nat × Value)) : Instr.build 136 ps = bdR 136 ps := rfl
theorem bd_pg_run (w : World) (d : Nat → Int) : (bdR 136 #[(0, .agg (by16 d)), (1, .int .i64 1)]).run Tryz.prog w = .ok (.agg (pgA d)) w := by kernel_rfl
theorem pg_new (w : World) (d : Nat → Int) : PgAt (w.alloc (.cells (pgA d) 136)) w.heap.size d 1 false := by
  have hr := row_new w 136 (pgA d)
  refine ⟨hr.lt, fun j hj => ?_, by rw [hr.cell]; rfl, by rw [hr.cell]; rfl, ⟨0, by rw [hr.cell]; rfl⟩, hr.fz, ⟨_, hr⟩⟩
  rw [hr.cell]
  have : j = 0 ∨ j = 1 ∨ j = 2 ∨ j = 3 ∨ j = 4 ∨ j = 5 ∨ j = 6 ∨ j = 7 ∨ j = 8 ∨ j = 9 ∨ j = 10 ∨ j = 11 ∨ j = 12 ∨ j = 13 ∨ j = 14 ∨ j = 15 := by omega
  rcases this with rfl | rfl | rfl | rfl | rfl | rfl | rfl | rfl | rfl | rfl | rfl | rfl | rfl | rfl | rfl | rfl <;> rfl
def MS.ghost (m : MS) (g : Nat) (d : Nat → Int) (u : Int) (q : Bool) : MS := { m with d := fup m.d g d, u := fup m.u g u, h := fup m.h g q }
/-- the state with a page more, in a frame -/
def MS.add (m : MS) (v : Value) (g : Nat) (d : Nat → Int) : MS := { m with pv := v, pl := m.pl ++ [g], d := fup m.d g d, u := fup m.u g 1, h := fup m.h g true }
section
variable {w w' : World} {M so g : Nat} {fr sl : Int} {m : MS}
theorem MemG.ghost (h : MemG w M so fr sl m) (hg : ¬ g ∈ m.pl) (d : Nat → Int) (u : Int) (q : Bool) : MemG w M so fr sl (m.ghost g d u q) := by
  refine ⟨h.m0, h.m1, h.m2, h.m3, h.m4, h.mz, h.mlt, h.ps, h.om, h.im, fun j hj => ?_, h.n1, h.n2, h.n3, h.n4, h.n5, h.nd⟩
  have e : j ≠ g := fun e => hg (e ▸ hj)
  simp only [MS.ghost, fup_off _ _ e]
  exact h.pg j hj
theorem pp_push (l : List Nat) (g : Nat) : pp l ++ [.pointer (some ⟨g, 0, none⟩)] = pp (l ++ [g]) := by simp [pp]
theorem countP_ghost (l : List Nat) (h : Nat → Bool) (g : Nat) (hg : ¬ g ∈ l) : (l ++ [g]).countP (fup h g false) = l.countP h := by
  rw [List.countP_append]
  have e : l.countP (fup h g false) = l.countP h := by
    rw [List.countP_eq_length_filter, List.countP_eq_length_filter]
    congr 1
    refine List.filter_congr fun x hx => ?_
    rw [fup_off _ _ (fun e => hg (by rw [← e]; exact hx))]
  rw [e]
  simp [fup_same]
attribute [local go_sem ↓] ld_16 bd_pg appP_eq
set_option maxRecDepth 100000 in
set_option maxHeartbeats 1000000 in
theorem addPg_is (h : MemG w M so fr sl m) (d : Nat → Int) (hc : (m.pl.countP m.h : Int) < fr) (hl : m.pl.length < 100000) : Calls Tryz.prog 85 #[.pointer (some ⟨M, 0, none⟩), .agg (by16 d)] w fun e w' => ∃ g v, e = .returned (.pointer (some ⟨g, 0, none⟩)) ∧ w.heap.size ≤ g ∧ MemG w' M so fr sl (m.add v g d) ∧ (v.ownBlock = m.pv.ownBlock ∨ ∃ b, w.heap.size ≤ b ∧ v.ownBlock = some b) ∧ Upd (fun k => k = M ∨ m.pv.ownBlock = some k) w w' := by
  have hb1 := Go.Joins.below_alloc1 w (.cells (by16 d) 134)
  have hr1 := row_new w 134 (by16 d)
  have hl1 := hr1.ld0 Tryz.underlying134 rfl (by kernel_rfl)
  have hbd := fun w => bd_pg_run w d
  obtain ⟨W1, hW1⟩ : ∃ W1, W1 = w.alloc (.cells (by16 d) 134) := ⟨_, rfl⟩
  rw [← hW1] at hb1 hl1
  have hs1 : w.heap.size < W1.heap.size := by rw [hW1]; simp
  have hb2 := Go.Joins.below_alloc1 W1 (.cells (pgA d) 136)
  have hp2 := pg_new W1 d
  obtain ⟨W2, hW2⟩ : ∃ W2, W2 = W1.alloc (.cells (pgA d) 136) := ⟨_, rfl⟩
  rw [← hW2] at hb2 hp2
  have hb02 : Below w.heap.size w W2 := hb1.trans (hb2.mono hb1.size)
  have hb3 := Go.Joins.below_alloc1 W2 (.cells #[.pointer (some ⟨W1.heap.size, 0, none⟩)] 137)
  have h2 := h.keep hb02
  have h3 := h2.keep hb3
  obtain ⟨i0, hi5, hz0, hz1, hz2⟩ := info_parts infoPg
  have hng : ¬ W1.heap.size ∈ m.pl := fun q => by have := h.lt (.inr (.inr (.inr (.inr q)))); omega
  obtain ⟨v, w4, hap, own, gr, hv⟩ := run_append_fresh (P := Tryz.prog) (W2.alloc (.cells #[.pointer (some ⟨W1.heap.size, 0, none⟩)] 137)) 0 130 130 137 i0 (.pointer none) 1 8 Tryz.underlying130 hi5 hz0 hz1 hz2 rfl (by decide) m.pv m.pl.length _ h3.ps ⟨W2.heap.size, 0, none⟩ 1 1 [.pointer (some ⟨W1.heap.size, 0, none⟩)] rfl (cells_new W2 [.pointer (some ⟨W1.heap.size, 0, none⟩)] 137) (by simp [Value.oneCell']) (by unfold maxLen; omega) (by omega) (by omega)
  rw [appP_eq] at hap
  rw [pp_push] at own
  have hs3 : w.heap.size ≤ (W2.alloc (.cells #[.pointer (some ⟨W1.heap.size, 0, none⟩)] 137)).heap.size := Nat.le_trans hb02.size hb3.size
  have hv' : v.ownBlock = m.pv.ownBlock ∨ ∃ b, w.heap.size ≤ b ∧ v.ownBlock = some b := by
    rcases hv with e | ⟨b, e1, e2⟩
    · exact .inl e
    · exact .inr ⟨b, by omega, e2⟩
  have hu4 : Upd (fun k => m.pv.ownBlock = some k) w w4 := (Upd.below (hb02.trans (hb3.mono hb02.size))).trans (Upd.grown0 gr (fun b e _ => e))
  have hp4 : PgAt w4 W1.heap.size d 1 false := (hp2.keep hb3).upd (Upd.grown0 gr (S := fun k => m.pv.ownBlock = some k) (fun b e _ => e)) (fun q => by have := h.lt (.inr (.inr (.inl q))); omega)
  have hvn : v.ownBlock ≠ some W1.heap.size := fun q => by
    rcases hv with e | ⟨b, e1, e2⟩
    · rw [q] at e; have := h.lt (.inr (.inr (.inl e.symm))); omega
    · rw [e2] at q; injection q with q; have := hb3.size; have := hp2.lt; omega
  have hm4 := (h.ghost hng d 1 false).pages (w1 := w4) (v := v) (pl' := m.pl ++ [W1.heap.size]) hu4 (fun k hk => hk) (by simpa using own) hv' (fun j hj => by
    rcases List.mem_append.1 hj with q | q
    · exact .inl q
    · simp at q
      subst q
      refine .inr ⟨by omega, hvn, ?_⟩
      simp only [MS.ghost, fup_same]
      exact hp4) (by
    rw [List.nodup_append]
    refine ⟨h.nd, by simp, fun a ha b hb e => ?_⟩
    simp at hb
    subst hb
    exact hng (e ▸ ha))
  have hu5 : Upd (fun k => k = M ∨ m.pv.ownBlock = some k) w (w4.setCell ⟨M, 3, none⟩ v) := (hu4.mono (fun _ _ e => .inr e)).trans (Upd.set _ _ (.inl rfl))
  have HAS := Lib.hid (askG_is hm4 (g := W1.heap.size) (by simp) (.inr (by
    show (((m.pl ++ [W1.heap.size]).countP (fup m.h W1.heap.size false) : Nat) : Int) < fr
    rw [countP_ghost _ _ _ hng]; exact hc)))
  have hg5 : ∀ X : MS, X = { ({ (m.ghost W1.heap.size d 1 false) with pv := v, pl := m.pl ++ [W1.heap.size] } : MS) with h := fup (fup m.h W1.heap.size false) W1.heap.size true } → X = m.add v W1.heap.size d := fun X e => by
    rw [e]
    have e2 : fup (fup m.h W1.heap.size false) W1.heap.size true = fup m.h W1.heap.size true := by
      funext k
      unfold fup
      split <;> rfl
    simp only [MS.add, MS.ghost, e2]
  have HG5 := Lib.hid hg5
  have HV := Lib.hid hv'
  have HU5 := Lib.hid hu5
  have HL : Hid (w.heap.size ≤ W1.heap.size) := Lib.hid (by omega)
  obtain ⟨p, cap, hvf⟩ := own_form own
  have m3 := h2.m3
  have m3b := h3.m3
  have m3y := (gr : World.grownBy _ _ _)
  have m3c : ∃ u, w4.cell? ⟨M, 3, none⟩ = some u := ⟨_, (hu4.cell h.mlt (fun q => (h.n2 M q).1 rfl)).trans h.m3⟩
  obtain ⟨u3, m3c⟩ := m3c
  have m3z : w4.frozen? ⟨M, 3, none⟩ = false := (hu4.frozen h.mlt (fun q => (h.n2 M q).1 rfl)).trans (h.mz 3)
  clear h h2 h3 hb1 hb2 hb3 hb02 hr1 hp2 hng hi5 hz0 hz1 hz2 own gr hv hv' hu4 hp4 hvn hm4 hu5 hg5 hs3 hs1 hc m3y
  go_enter Tryz.func85, Tryz.ntmps85
  go_upto_region 1 with fail
  rw [← hW1]
  have HW2 := Lib.hid hW2
  clear hW1 hW2
  go_upto_region 2 with fail
  rw [← HW2.out]
  clear HW2 hbd hl1
  subst hvf
  go_wp2_with (go_at_call 150; refine HAS.out.mono ?_; rintro e1 w1 ⟨rfl, hm1, hu1⟩; have HM1 := Lib.hid hm1; have HU1 := Lib.hid hu1; clear hm1 hu1)
  go_ret
  exact ⟨_, _, rfl, HL.out, by rw [← HG5.out _ rfl]; exact HM1.out, HV.out, HU5.out.trans' HU1.out (fun k hk e => by
    rcases e with e | e
    · exact .inl e
    · have := HL.out; omega)⟩
end
end Go.Proofs.YtnbhohaphmilmaaGreatDoor
