/- The walks of limit.Give and limit.Room. -/
import Derived.Test.YtgdihccmkleimaaLimitTake
namespace Go.Proofs.Ytgdihccmkleimaa.LimitLaw
open Go.RowKit
open BoxLaw (Rg Lies IsL cellsR cellsR_at cellsR_length)
set_option linter.unusedVariables false

structure OkG (l : List Rg) (n : Nat) (q : Int) : Prop where
  len : l.length = n
  up : ∀ j, j < l.length → -1 ≤ (l.getD j r0).a ∧ (l.getD j r0).a < j
  num : ∀ j, j < l.length → (j : Int) ≤ q → 0 ≤ (l.getD j r0).b ∧ (l.getD j r0).b ≤ 1000000
theorem OkG.set {l : List Rg} {n : Nat} {k : Nat} (h : OkG l n k) (x : Int) {q : Int} (hq : q < k) : OkG (l.set k ⟨(l.getD k r0).a, x, (l.getD k r0).n⟩) n q := by
  refine ⟨by simp [h.len], fun j hj => ?_, fun j hj hjq => ?_⟩
  · have hj' : j < l.length := by simpa using hj
    have := h.up j hj'
    by_cases hk : k = j
    · subst hk; rw [set_getD _ _ _ _ hj', if_pos rfl]; exact this
    · rw [show (l.set k ⟨(l.getD k r0).a, x, (l.getD k r0).n⟩).getD j r0 = l.getD j r0 by simp [List.getD, List.getElem?_set, hk]]; exact this
  · have hj' : j < l.length := by simpa using hj
    have hk : k ≠ j := by omega
    have := h.num j hj' (by omega)
    rw [show (l.set k ⟨(l.getD k r0).a, x, (l.getD k r0).n⟩).getD j r0 = l.getD j r0 by simp [List.getD, List.getElem?_set, hk]]; exact this

theorem giveR_bad {l : List Rg} {k n : Int} (h : ¬ chkT l = 0) : giveR l k n = ([], chkT l) := by rw [giveR, if_neg h]
theorem giveR_arg {l : List Rg} {k n : Int} (h : chkT l = 0) (h2 : ¬ (0 ≤ k ∧ k < l.length ∧ 0 ≤ n ∧ n ≤ 1000000)) : giveR l k n = ([], 1) := by rw [giveR, if_pos h, if_neg h2]
theorem giveR_none {l : List Rg} {k n : Int} (h : chkT l = 0) (h2 : 0 ≤ k ∧ k < l.length ∧ 0 ≤ n ∧ n ≤ 1000000) (h3 : ¬ n ≤ (l.getD k.toNat r0).b - kidsL l k) : giveR l k n = ([], 4) := by rw [giveR, if_pos h, if_pos h2, if_neg h3]
theorem giveR_some {l : List Rg} {k n : Int} (h : chkT l = 0) (h2 : 0 ≤ k ∧ k < l.length ∧ 0 ≤ n ∧ n ≤ 1000000) (h3 : n ≤ (l.getD k.toNat r0).b - kidsL l k) : giveR l k n = (giveGo n (l.length + 1) k l, 0) := by rw [giveR, if_pos h, if_pos h2, if_pos h3]
theorem giveGo_end {n : Int} {f : Nat} {k : Int} {cur : List Rg} (h : k < 0) : giveGo n f k cur = cur := by
  cases f with
  | zero => rfl
  | succ f => rw [giveGo, if_pos h]
theorem giveGo_next {n : Int} {f : Nat} {k : Nat} {cur : List Rg} (hf : (k : Int) < f) : ∃ f', f = f' + 1 ∧ giveGo n f k cur = giveGo n f' (cur.getD k r0).a (cur.set k ⟨(cur.getD k r0).a, (cur.getD k r0).b - n, (cur.getD k r0).n⟩) := by
  cases f with
  | zero => omega
  | succ f => exact ⟨f, rfl, by rw [giveGo, if_neg (by omega), Int.toNat_natCast]; rfl⟩

set_option maxRecDepth 100000 in
set_option maxHeartbeats 1000000 in
theorem give_some (b off cap : Nat) (l : List Rg) (k n : Int) (w : World) (h0 : 0 < l.length) (hl : l.length ≤ cap) (hL : Lies w b off l) :
    Calls Try.prog 40 #[.slice (some ⟨b, off, none⟩) l.length cap, .int .i64 k, .int .i64 n] w (Pair (giveR l k n) w) := by
  have hcheck := check_some b off cap l w hl hL
  have hclone := fun (w1 : World) (h : Below w.heap.size w w1) (h12 : l.length ≤ 12) => clone_some b off cap l w1 h0 h12 (hL.below h hL.lt)
  have hkids := fun (k : Int) (w1 : World) (h : Below w.heap.size w w1) (h12 : l.length ≤ 12) (hnum : ∀ j, j < l.length → 0 ≤ (l.getD j r0).b ∧ (l.getD j r0).b ≤ 1000000) => kids_some b off cap l k w1 h12 (hL.below h hL.lt) hnum
  obtain ⟨c, hc⟩ : ∃ c, c = l.length := ⟨_, rfl⟩
  by_cases hz : chkT l = 0
  · have hze : (chkT l != 0) = false := by simp [hz]
    have h12 := ((chkT_zero l).1 hz).1
    have hg := ((chkT_zero l).1 hz).2.1
    have hnum : ∀ j, j < l.length → 0 ≤ (l.getD j r0).b ∧ (l.getD j r0).b ≤ 1000000 := fun j hj => by have := hg.num j hj; omega
    by_cases hin : 0 ≤ k ∧ k < l.length ∧ 0 ≤ n ∧ n ≤ 1000000
    · have HIN := Lib.hid hin
      obtain ⟨kn, rfl⟩ : ∃ kn : Nat, k = kn := ⟨k.toNat, by omega⟩
      have hkl : kn < l.length := by omega
      have hnk := hnum kn hkl
      have hkids' := fun (w1 : World) (h : Below w.heap.size w w1) => hkids kn w1 h h12 hnum
      have hkb := kids_bound l kn hnum
      obtain ⟨kd, hkd⟩ : ∃ kd, kd = kidsL l kn := ⟨_, rfl⟩
      obtain ⟨r, hr⟩ : ∃ r, r = l.getD kn r0 := ⟨_, rfl⟩
      have hcb := hL.cb kn hkl
      rw [← hc] at h0 hl hcheck hclone hkids' hin h12 hkl hkb ⊢
      rw [← hkd] at hkids' hkb
      rw [← hr] at hnk
      rw [show l.getD kn ⟨0, 0, 0⟩ = r from hr.symm] at hcb
      obtain ⟨kb0, kb1⟩ := hkb
      obtain ⟨nk0, nk1⟩ := hnk
      have HL := Lib.hid hL
      have HC := Lib.hid hc
      have HK := Lib.hid hcheck
      have HCL := Lib.hid hclone
      have HKI := Lib.hid hkids'
      have HNUM := Lib.hid hnum
      have HKD := Lib.hid hkd
      have HR := Lib.hid hr
      have HG := Lib.hid hg
      have HZ := Lib.hid hz
      have HCB := Lib.hid hcb
      clear hL hc hcheck hclone hkids' hkids hnum hkd hr hg hz hcb
      have kd1 : kd ≤ 12000000 := by omega
      obtain ⟨k0, k1, n0, n1⟩ := hin
      have hlt := HL.out.lt
      by_cases hle : n ≤ r.b - kd
      · have HGV := Lib.hid (giveR_some HZ.out HIN.out (by rw [Int.toNat_natCast, ← HR.out, ← HKD.out]; exact hle))
        go_enter Try.func40, Try.ntmps40
        go_wp2_with fail
        refine HK.out.mono ?_
        rintro e w1 ⟨rfl, hb1⟩
        have hcb1 := (hb1.cell (p := ⟨b, off + kn * 3 + 1, none⟩) hlt).trans HCB.out
        have hblt : b < w1.heap.size := Nat.lt_of_lt_of_le hlt hb1.size
        go_wp2_with fail
        go_region_held3 (fun w' => w'.cell? ⟨b, off + kn * 3 + 1, none⟩ = some (.int .i64 r.b)) (go_keep)
                (first | (go_at_call 58; refine (HKI.out _ hb1.drew).mono ?_; rintro e w2 ⟨rfl, hb2⟩; have hS := (hb2.cell (p := ⟨b, off + kn * 3 + 1, none⟩) hblt).trans hcb1))
        have hbx := hb1.drew.trans (hb2.mono hb1.drew.size)
        clear hcb1 hb1 hb2 hblt hS
        have hwr : IntKind.i64.wrap (r.b - kd) = r.b - kd := IntWalk.i64_in _ (by omega)
        simp only [hwr]
        clear hwr
        go_wp2_with fail
        refine (HCL.out _ hbx h12).mono ?_
        rintro e w3 ⟨g, cap', rfl, hown, hb3⟩
        rw [← HC.out] at hown ⊢
        have hsz1 := hbx.size
        have hg0 := (hown.lt g rfl).1
        have hg1 : w.heap.size ≤ g := Nat.le_trans hsz1 hg0
        have hbel0 := hbx.trans (hb3.mono hbx.size)
        obtain ⟨B, hB⟩ : ∃ B, B = w2.heap.size := ⟨_, rfl⟩
        rw [← hB] at hown
        clear hbx hb3 hB hsz1 hg0
        go_wp2_with fail
        go_loopw [10] (fun at_ wr => ∃ (q : Int) (f : Nat) (cur : List Rg), at_ = .int .i64 q ∧ -1 ≤ q ∧ q < c ∧ Hid (q < f) ∧ Hid (OkG cur c q) ∧ wr.ownsRow B 78 3 (.slice (some ⟨g, 0, none⟩) c cap') c (cellsR cur) ∧ Below w.heap.size w wr ∧ Hid (giveGo n (l.length + 1) kn l = giveGo n f q cur)) (fun at_ _ => (intOf at_ + 1).toNat)
        case atStart => exact ⟨kn, l.length + 1, l, rfl, by omega, k1, by have := HC.out; show (kn : Int) < _; omega, ⟨HC.out.symm, HG.out.up, fun j hj _ => HNUM.out j hj⟩, hown, hbel0, rfl⟩
        case round =>
          clear hown hbel0
          obtain ⟨q, f, cur, rfl, q0, q1, HF, HOK, hown, hbel, HT⟩ := hrel
          by_cases hq : q < 0
          · go_wp2
            go_ret2
            rw [HGV.out, HT.out.trans (giveGo_end hq)]
            exact ⟨_, rfl, isL_owned (by rw [HOK.out.len]; exact hown), hbel⟩
          · obtain ⟨j, rfl⟩ : ∃ j : Nat, q = j := ⟨q.toNat, by omega⟩
            obtain ⟨s, hs⟩ : ∃ s, s = cur.getD j r0 := ⟨_, rfl⟩
            have hj : j < cur.length := by rw [HOK.out.len]; omega
            obtain ⟨d1, d2, d3⟩ := cellsR_at cur j hj
            have jlt : j < c := by omega
            have g1 := (hown.cellAt _ (by omega)).trans d1
            have g2 := (hown.cellAt _ (by omega)).trans d2
            have g4 := hown.frozenAt (j * 3 + 1)
            have hu := HOK.out.up j hj
            have hm := HOK.out.num j hj (Int.le_refl _)
            rw [← hs] at g1 g2 hu hm
            obtain ⟨u0, u1⟩ := hu
            obtain ⟨m0, m1⟩ := hm
            obtain ⟨f', rfl, hT'⟩ := giveGo_next (n := n) (k := j) (cur := cur) HF.out
            rw [← hs] at hT'
            have HT2 := Lib.hid hT'
            have HS := Lib.hid hs
            clear hs d1 d2 d3 hT'
            go_wp2
            go_roundw
            case rel =>
              have hst := (hown.stored (j * 3 + 1) (.int .i64 (s.b - n))).1
              rw [cellsR_set cur _ j hj, ← HS.out] at hst
              exact ⟨s.a, f', cur.set j ⟨s.a, s.b - n, s.n⟩, rfl, u0, by omega, by have := HF.out; show s.a < _; omega, by have := HOK.out.set (k := j) (s.b - n) (q := s.a) u1; rw [← HS.out] at this; exact this, hst, hbel.setCell hg1 _, HT.out.trans HT2.out⟩
            case measure => simp [intOf]; omega
      · have HGV := Lib.hid (giveR_none HZ.out HIN.out (by rw [Int.toNat_natCast, ← HR.out, ← HKD.out]; exact hle))
        go_enter Try.func40, Try.ntmps40
        go_wp2_with fail
        refine HK.out.mono ?_
        rintro e w1 ⟨rfl, hb1⟩
        have hcb1 := (hb1.cell (p := ⟨b, off + kn * 3 + 1, none⟩) hlt).trans HCB.out
        have hblt : b < w1.heap.size := Nat.lt_of_lt_of_le hlt hb1.size
        go_wp2_with fail
        go_region_held3 (fun w' => w'.cell? ⟨b, off + kn * 3 + 1, none⟩ = some (.int .i64 r.b)) (go_keep)
                (first | (go_at_call 58; refine (HKI.out _ hb1.drew).mono ?_; rintro e w2 ⟨rfl, hb2⟩; have hS := (hb2.cell (p := ⟨b, off + kn * 3 + 1, none⟩) hblt).trans hcb1))
        have hbx := hb1.drew.trans (hb2.mono hb1.drew.size)
        clear hcb1 hb1 hb2 hblt hS
        have hwr : IntKind.i64.wrap (r.b - kd) = r.b - kd := IntWalk.i64_in _ (by omega)
        simp only [hwr]
        clear hwr
        go_wp2
        go_ret2
        exact pair_bad HGV.out hbx
    · have HBAD := Lib.hid (giveR_arg hz hin)
      rw [← hc] at hin hcheck ⊢
      have HK := Lib.hid hcheck
      have hcase : k < 0 ∨ (0 ≤ k ∧ (c : Int) ≤ k) ∨ ((0 ≤ k ∧ k < c) ∧ n < 0) ∨ ((0 ≤ k ∧ k < c) ∧ 0 ≤ n ∧ 1000000 < n) := by omega
      clear hin hL hc hcheck hclone hkids hnum hg hz
      rcases hcase with hh | hh | hh | hh
      all_goals
        go_enter Try.func40, Try.ntmps40
        go_wp2_with fail
        refine HK.out.mono ?_
        rintro e w1 ⟨rfl, hb1⟩
        go_wp2
        go_ret2
        exact pair_bad HBAD.out hb1
  · have hze : (chkT l != 0) = true := by simp [hz]
    have HBAD := Lib.hid (giveR_bad hz (k := k) (n := n))
    have HK := Lib.hid hcheck
    clear hz hL hc hcheck hclone hkids
    go_enter Try.func40, Try.ntmps40
    go_wp2_with fail
    refine HK.out.mono ?_
    rintro e w1 ⟨rfl, hb1⟩
    go_wp2
    go_ret2
    exact pair_bad HBAD.out hb1
end Go.Proofs.Ytgdihccmkleimaa.LimitLaw
