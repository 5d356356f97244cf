/- The walk of limit.Take. -/
import Derived.Test.YtgdihccmkleimaaLimitClone
namespace Go.Proofs.Ytgdihccmkleimaa.LimitLaw
open Go.RowKit
open BoxLaw (Rg Lies IsL cellsR cellsR_at cellsR_length)
set_option linter.unusedVariables false

def Pair (p : List Rg × Int) (w : World) (e : Ending) (w' : World) : Prop :=
  ∃ v, e = .returned (.tuple #[v, .int .i64 p.2]) ∧ IsL w' v p.1 ∧ Below w.heap.size w w'
theorem pair_bad {w w' : World} {n : Int} {p : List Rg × Int} (hp : p = ([], n)) (hb : Below w.heap.size w w') : Pair p w (.returned (.tuple #[.slice none 0 0, .int .i64 n])) w' := by
  subst hp
  exact ⟨_, rfl, isL_nil _, hb⟩

structure Ok (l : List Rg) (n : Nat) : Prop where
  len : l.length = n
  good : Good l
theorem Ok.set {l : List Rg} {n : Nat} (h : Ok l n) {k : Nat} (x : Int) (h0 : 0 ≤ x) (hm : x ≤ (l.getD k r0).n) : Ok (l.set k ⟨(l.getD k r0).a, x, (l.getD k r0).n⟩) n := by
  refine ⟨by simp [h.len], ⟨fun j hj => ?_, fun j hj => ?_⟩⟩
  · have hj' : j < l.length := by simpa using hj
    have := h.good.up j hj'
    by_cases hk : k = j
    · subst hk; rw [set_getD _ _ _ _ hj', if_pos rfl]; exact this
    · rw [show (l.set k ⟨(l.getD k r0).a, x, (l.getD k r0).n⟩).getD j r0 = l.getD j r0 by simp [List.getD, List.getElem?_set, hk]]; exact this
  · have hj' : j < l.length := by simpa using hj
    have := h.good.num j hj'
    by_cases hk : k = j
    · subst hk; rw [set_getD _ _ _ _ hj', if_pos rfl]; simp only; omega
    · rw [show (l.set k ⟨(l.getD k r0).a, x, (l.getD k r0).n⟩).getD j r0 = l.getD j r0 by simp [List.getD, List.getElem?_set, hk]]; exact this

theorem takeR_bad {l : List Rg} {k n : Int} (h : ¬ chkT l = 0) : takeR l k n = ([], chkT l) := by rw [takeR, if_neg h]
theorem takeR_arg {l : List Rg} {k n : Int} (h : chkT l = 0) (h2 : ¬ (0 ≤ k ∧ k < l.length ∧ 0 ≤ n ∧ n ≤ 1000000)) : takeR l k n = ([], 1) := by rw [takeR, if_pos h, if_neg h2]
theorem takeR_none {l : List Rg} {k n : Int} (h : chkT l = 0) (h2 : 0 ≤ k ∧ k < l.length ∧ 0 ≤ n ∧ n ≤ 1000000) (h3 : takeGo n (l.length + 1) k l = none) : takeR l k n = ([], 16) := by rw [takeR, if_pos h, if_pos h2, h3]
theorem takeR_some {l m : List Rg} {k n : Int} (h : chkT l = 0) (h2 : 0 ≤ k ∧ k < l.length ∧ 0 ≤ n ∧ n ≤ 1000000) (h3 : takeGo n (l.length + 1) k l = some m) : takeR l k n = (m, 0) := by rw [takeR, if_pos h, if_pos h2, h3]
theorem takeGo_end {n : Int} {f : Nat} {k : Int} {cur : List Rg} (h : k < 0) : takeGo n f k cur = some cur := by
  cases f with
  | zero => rfl
  | succ f => rw [takeGo, if_pos h]
theorem takeGo_over {n : Int} {f : Nat} {k : Nat} {cur : List Rg} (hf : (k : Int) < f) (h : (cur.getD k r0).n < (cur.getD k r0).b + n) : takeGo n f k cur = none := by
  cases f with
  | zero => omega
  | succ f => rw [takeGo, if_neg (by omega), Int.toNat_natCast, if_pos h]
theorem takeGo_next {n : Int} {f : Nat} {k : Nat} {cur : List Rg} (hf : (k : Int) < f) (h : ¬ (cur.getD k r0).n < (cur.getD k r0).b + n) : ∃ f', f = f' + 1 ∧ takeGo n f k cur = takeGo n f' (cur.getD k r0).a (cur.set k ⟨(cur.getD k r0).a, (cur.getD k r0).b + n, (cur.getD k r0).n⟩) := by
  cases f with
  | zero => omega
  | succ f => exact ⟨f, rfl, by rw [takeGo, if_neg (by omega), Int.toNat_natCast, if_neg h]; rfl⟩

set_option maxRecDepth 100000 in
set_option maxHeartbeats 1000000 in
theorem take_some (b off cap : Nat) (l : List Rg) (k n : Int) (w : World) (h0 : 0 < l.length) (hl : l.length ≤ cap) (hL : Lies w b off l) :
    Calls Try.prog 39 #[.slice (some ⟨b, off, none⟩) l.length cap, .int .i64 k, .int .i64 n] w (Pair (takeR l k n) w) := by
  have hcheck := check_some b off cap l w hl hL
  have hclone := fun (w1 : World) (h : Below w.heap.size w w1) (h12 : l.length ≤ 12) => clone_some b off cap l w1 h0 h12 (hL.below h hL.lt)
  obtain ⟨c, hc⟩ : ∃ c, c = l.length := ⟨_, rfl⟩
  rw [← hc] at h0 hl hcheck hclone ⊢
  have HL := Lib.hid hL
  have HC := Lib.hid hc
  have HK := Lib.hid hcheck
  have HCL := Lib.hid hclone
  clear hL hc hcheck hclone
  by_cases hz : chkT l = 0
  · have hze : (chkT l != 0) = false := by simp [hz]
    have h12 := ((chkT_zero l).1 hz).1
    rw [← HC.out] at h12
    have HG := Lib.hid ((chkT_zero l).1 hz).2.1
    have HZ := Lib.hid hz
    clear hz
    by_cases hin : 0 ≤ k ∧ k < c ∧ 0 ≤ n ∧ n ≤ 1000000
    · have hin' := hin
      rw [HC.out] at hin'
      have HIN := Lib.hid hin'
      clear hin'
      obtain ⟨k0, k1, n0, n1⟩ := hin
      go_enter Try.func39, Try.ntmps39
      go_wp2_with fail
      refine HK.out.mono ?_
      rintro e w1 ⟨rfl, hb1⟩
      go_wp2_with fail
      refine (HCL.out _ hb1 h12).mono ?_
      rintro e w2 ⟨g, cap', rfl, hown, hb2⟩
      rw [← HC.out] at hown ⊢
      have hsz1 := hb1.size
      have hg0 := (hown.lt g rfl).1
      have hg1 : w.heap.size ≤ g := Nat.le_trans hsz1 hg0
      have hbel0 := hb1.trans (hb2.mono hb1.size)
      obtain ⟨B, hB⟩ : ∃ B, B = w1.heap.size := ⟨_, rfl⟩
      rw [← hB] at hown
      clear hb1 hb2 hB hsz1 hg0
      go_wp2_with fail
      go_loopw [10] (fun at_ wr => ∃ (q : Int) (f : Nat) (cur : List Rg), at_ = .int .i64 q ∧ -1 ≤ q ∧ q < c ∧ Hid (q < f) ∧ Hid (Ok cur c) ∧ wr.ownsRow B 78 3 (.slice (some ⟨g, 0, none⟩) c cap') c (cellsR cur) ∧ Below w.heap.size w wr ∧ Hid (takeGo n (l.length + 1) k l = takeGo n f q cur)) (fun at_ _ => (intOf at_ + 1).toNat)
      case atStart => exact ⟨k, l.length + 1, l, rfl, by omega, k1, by have := HC.out; show (k : Int) < _; omega, ⟨HC.out.symm, HG.out⟩, hown, hbel0, rfl⟩
      case round =>
        clear hown hbel0
        obtain ⟨q, f, cur, rfl, q0, q1, HF, HOK, hown, hbel, HT⟩ := hrel
        by_cases hq : q < 0
        · go_wp2
          go_ret2
          rw [takeR_some HZ.out HIN.out (HT.out.trans (takeGo_end hq))]
          exact ⟨_, rfl, isL_owned (by rw [HOK.out.len]; exact hown), hbel⟩
        · obtain ⟨j, rfl⟩ : ∃ j : Nat, q = j := ⟨q.toNat, by omega⟩
          obtain ⟨r, hr⟩ : ∃ r, r = cur.getD j r0 := ⟨_, rfl⟩
          have hj : j < cur.length := by rw [HOK.out.len]; omega
          obtain ⟨d1, d2, d3⟩ := cellsR_at cur j hj
          have jlt : j < c := by omega
          have g1 := (hown.cellAt _ (by omega)).trans d1
          have g2 := (hown.cellAt _ (by omega)).trans d2
          have g3 := (hown.cellAt _ (by omega)).trans d3
          have g4 := hown.frozenAt (j * 3 + 1)
          have hu := HOK.out.good.up j hj
          have hm := HOK.out.good.num j hj
          rw [← hr] at g1 g2 g3 hu hm
          obtain ⟨u0, u1⟩ := hu
          obtain ⟨m0, m1, m2, m3⟩ := hm
          have HR := Lib.hid hr
          clear hr d1 d2 d3
          by_cases hov : r.n < r.b + n
          · go_wp2
            go_quiet (fail)
            go_wp2
            go_ret2
            exact pair_bad (takeR_none HZ.out HIN.out (HT.out.trans (takeGo_over HF.out (by rw [← HR.out]; exact hov)))) (below_drewN hbel _)
          · obtain ⟨f', rfl, hT'⟩ := takeGo_next (n := n) (k := j) (cur := cur) HF.out (by rw [← HR.out]; exact hov)
            rw [← HR.out] at hT'
            have HT2 := Lib.hid hT'
            clear hT'
            go_wp2
            go_quiet (fail)
            go_wp2
            go_roundw
            case rel =>
              have hs := ((BoxLaw.ownsRow_below hown (below_drewN (Below.refl _ _) 13)).stored (j * 3 + 1) (.int .i64 (r.b + n))).1
              rw [cellsR_set cur _ j hj, ← HR.out] at hs
              exact ⟨r.a, f', cur.set j ⟨r.a, r.b + n, r.n⟩, rfl, u0, by omega, by have := HF.out; show r.a < _; omega, by have := HOK.out.set (k := j) (r.b + n) (by omega) (by rw [← HR.out]; omega); rw [← HR.out] at this; exact this, hs, (below_drewN hbel _).setCell hg1 _, HT.out.trans HT2.out⟩
            case measure => simp [intOf]; omega
    · have HBAD := Lib.hid (takeR_arg HZ.out (by rw [← HC.out]; exact hin))
      have hcase : k < 0 ∨ (0 ≤ k ∧ (c : Int) ≤ k) ∨ ((0 ≤ k ∧ k < c) ∧ n < 0) ∨ ((0 ≤ k ∧ k < c) ∧ 0 ≤ n ∧ 1000000 < n) := by omega
      clear hin
      rcases hcase with hh | hh | hh | hh
      all_goals
        go_enter Try.func39, Try.ntmps39
        go_wp2_with fail
        refine HK.out.mono ?_
        rintro e w1 ⟨rfl, hb1⟩
        go_wp2
        go_ret2
        exact pair_bad HBAD.out hb1
  · have hze : (chkT l != 0) = true := by simp [hz]
    have HBAD := Lib.hid (takeR_bad hz (k := k) (n := n))
    clear hz
    go_enter Try.func39, Try.ntmps39
    go_wp2_with fail
    refine HK.out.mono ?_
    rintro e w1 ⟨rfl, hb1⟩
    go_wp2
    go_ret2
    exact pair_bad HBAD.out hb1
end Go.Proofs.Ytgdihccmkleimaa.LimitLaw
