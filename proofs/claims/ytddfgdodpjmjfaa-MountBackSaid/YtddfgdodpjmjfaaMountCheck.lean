/- The walks of mount.Check, mount.Down. -/
import Derived.Test.YtddfgdodpjmjfaaMountWalk
namespace Go.Proofs.Ytddfgdodpjmjfaa.MountLaw
open Go.RowKit
set_option linter.unusedVariables false

def CheckPost (l : List Mt) (w : World) (e : Ending) (w' : World) : Prop := ∃ en : Int, e = .returned (.int .i64 en) ∧ Below w.heap.size w w' ∧ (en = 0 ∧ Good l ∨ en ≠ 0 ∧ ¬ Good l)
theorem checkPost_bad {l : List Mt} {w w' : World} {en : Int} (he : en ≠ 0) (h : ¬ Good l) (hb : Below w.heap.size w w') : CheckPost l w (.returned (.int .i64 en)) w' := ⟨en, rfl, hb, .inr ⟨he, h⟩⟩
theorem find_self {l : List Mt} {k : Nat} {r : Int} (hk : k < l.length) (h : FindIs l (l.getD k m0).a r) : (∃ j : Nat, r = j ∧ j < k ∧ (l.getD j m0).a = (l.getD k m0).a) ∨ (r = k ∧ ∀ j, j < k → (l.getD j m0).a ≠ (l.getD k m0).a) := by
  rcases h with ⟨_, h⟩ | ⟨j, rfl, h1, h2, h3⟩
  · exact absurd rfl (h k hk)
  · rcases Nat.lt_trichotomy j k with hjk | rfl | hjk
    · exact .inl ⟨j, rfl, hjk, h2⟩
    · exact .inr ⟨rfl, h3⟩
    · exact absurd rfl (h3 k hjk)
set_option maxRecDepth 100000 in
set_option maxHeartbeats 4000000 in
theorem check_is {w : World} {v : Value} {l : List Mt} (hm : MS w v l) : Calls Try.prog 38 #[v] w (CheckPost l w) := by
  have hfind := fun w' (hb : Below w.heap.size w w') (y : Int) => find_is y (hm.below hb)
  have hdown := fun w' (hb : Below w.heap.size w w') (y : Int) (h8 : l.length ≤ 9) => down_is y h8 (hm.below hb)
  obtain ⟨a, cap, rfl, hl, hcap, hm⟩ := hm
  obtain ⟨n, hn⟩ : ∃ n, n = l.length := ⟨_, rfl⟩
  rw [← hn] at hl hfind hdown ⊢
  have HN := Lib.hid hn
  have HM := Lib.hid hm
  have HF := Lib.hid hfind
  have HD := Lib.hid hdown
  clear hn hm hcap hfind hdown
  by_cases h8 : n ≤ 8
  · go_enter Try.func38, Try.ntmps38
    go_wp2
    go_loopw [14] (fun i wr => ∃ k : Nat, k ≤ n ∧ i = .int .i64 k ∧ Below w.heap.size w wr ∧ Hid (∀ i, i < k → inode (l.getD i m0).a ∧ inode (l.getD i m0).r ∧ ∀ j, j < i → (l.getD j m0).a ≠ (l.getD i m0).a)) (fun i _ => n - (intOf i).toNat)
    case atStart => exact ⟨0, Nat.zero_le _, rfl, Below.refl _ _, fun j hj => absurd hj (Nat.not_lt_zero _)⟩
    case round =>
      obtain ⟨k, hk, rfl, hbel, HK⟩ := hrel
      by_cases hkn : k < n
      · rcases HM.out with h0 | ⟨b, off, rfl, hlt, hcell⟩
        · have := HN.out; omega
        have HKL := Lib.hid (show k < l.length by rw [← HN.out]; exact hkn)
        obtain ⟨y, hy⟩ : ∃ y, y = l.getD k m0 := ⟨_, rfl⟩
        have g1 := (hbel.cell (p := ⟨b, off + k * 2, none⟩) hlt).trans (hcell k HKL.out).1
        have g2 := (hbel.cell (p := ⟨b, off + k * 2 + 1, none⟩) hlt).trans (hcell k HKL.out).2
        rw [← hy] at g1 g2
        have HY := Lib.hid hy
        have hA : Below wr.heap.size wr (wr.alloc (.cells #[.int .i64 y.a, .int .i64 y.r] 80)) := Go.Joins.below_alloc1 _ _
        have HB2 := Lib.hid (hbel.trans (hA.mono hbel.size))
        clear hy hcell hA hbel
        by_cases ha : inode y.a
        · by_cases hr : inode y.r
          · have HI := Lib.hid (And.intro ha hr)
            have da := Lib.hid (decide_eq_true ha)
            have dr := Lib.hid (decide_eq_true hr)
            clear ha hr
            go_wp2_with fail
            refine (inode_any _ _).mono ?_
            rintro e w2 ⟨rfl, rfl⟩
            rw [da.out]
            go_wp2_with fail
            refine (inode_any _ _).mono ?_
            rintro e w2 ⟨rfl, rfl⟩
            rw [dr.out]
            go_wp2_with fail
            refine (HF.out _ HB2.out y.a).mono ?_
            rintro e w3 ⟨⟨r, rfl, hr⟩, hb3⟩
            have HB3 := Lib.hid (HB2.out.trans (hb3.mono HB2.out.size))
            clear hb3
            rw [HY.out] at hr
            rcases find_self HKL.out hr with ⟨j, rfl, hjk, hjj⟩ | ⟨rfl, hbefore⟩
            · have hlt2 : (j : Int) < k := by omega
              have hbad := Lib.hid (show ¬ Good l from fun hg => hg.once k HKL.out j hjk hjj)
              clear hr hjj
              go_wp2
              go_ret
              exact checkPost_bad (by decide) hbad.out HB3.out
            · have HBF := Lib.hid hbefore
              clear hr hbefore
              go_wp2
              go_roundw
              case rel =>
                refine ⟨k + 1, by omega, by go_num, HB3.out, fun i hi => ?_⟩
                rcases Nat.lt_succ_iff_lt_or_eq.1 hi with h | rfl
                · exact HK.out i h
                · exact ⟨by rw [← HY.out]; exact HI.out.1, by rw [← HY.out]; exact HI.out.2, HBF.out⟩
              case measure => simp [intOf]; omega
          · have hbad := Lib.hid (show ¬ Good l from fun hg => hr (by rw [HY.out]; exact hg.r k HKL.out))
            have da := Lib.hid (decide_eq_true ha)
            have dr := Lib.hid (decide_eq_false hr)
            clear ha hr
            go_wp2_with fail
            refine (inode_any _ _).mono ?_
            rintro e w2 ⟨rfl, rfl⟩
            rw [da.out]
            go_wp2_with fail
            refine (inode_any _ _).mono ?_
            rintro e w2 ⟨rfl, rfl⟩
            rw [dr.out]
            go_wp2
            go_ret
            exact checkPost_bad (by decide) hbad.out HB2.out
        · have hbad := Lib.hid (show ¬ Good l from fun hg => ha (by rw [HY.out]; exact hg.a k HKL.out))
          have da := Lib.hid (decide_eq_false ha)
          clear ha
          go_wp2_with fail
          refine (inode_any _ _).mono ?_
          rintro e w2 ⟨rfl, rfl⟩
          rw [da.out]
          go_wp2
          go_ret
          exact checkPost_bad (by decide) hbad.out HB2.out
      · obtain rfl : k = n := by omega
        have HK1 := HK
        have HBE := Lib.hid hbel
        clear hkn hbel HK
        obtain ⟨wo, rfl⟩ : ∃ wo : World, wo = wr := ⟨_, rfl⟩
        go_wp2
        go_loopw [38] (fun i wr => ∃ j : Nat, j ≤ k ∧ i = .int .i64 j ∧ Below w.heap.size w wr ∧ Hid (∀ i, i < j → downR l (l.length + 1) (l.getD i m0).a ≠ none)) (fun i _ => k - (intOf i).toNat)
        case atStart => exact ⟨0, Nat.zero_le _, rfl, HBE.out, fun j hj => absurd hj (Nat.not_lt_zero _)⟩
        case round =>
          obtain ⟨j, hj, rfl, hbel, HK⟩ := hrel
          by_cases hkn : j < k
          · rcases HM.out with h0 | ⟨b, off, rfl, hlt, hcell⟩
            · have := HN.out; omega
            have HKL := Lib.hid (show j < l.length by rw [← HN.out]; exact hkn)
            obtain ⟨y, hy⟩ : ∃ y, y = l.getD j m0 := ⟨_, rfl⟩
            have g1 := (hbel.cell (p := ⟨b, off + j * 2, none⟩) hlt).trans (hcell j HKL.out).1
            have g2 := (hbel.cell (p := ⟨b, off + j * 2 + 1, none⟩) hlt).trans (hcell j HKL.out).2
            rw [← hy] at g1 g2
            have HY := Lib.hid hy
            have hA : Below wr.heap.size wr (wr.alloc (.cells #[.int .i64 y.a, .int .i64 y.r] 80)) := Go.Joins.below_alloc1 _ _
            have HB2 := Lib.hid (hbel.trans (hA.mono hbel.size))
            have hd := HD.out _ HB2.out y.a (by omega)
            obtain ⟨D, hDe⟩ : ∃ D, D = downR l (k + 1) y.a := ⟨_, rfl⟩
            rw [← hDe] at hd
            have HDE := Lib.hid hDe
            have HCALL := Lib.hid hd
            clear hy hcell hA hbel hd hDe
            cases D with
            | none =>
              have hbad := Lib.hid (show ¬ Good l from fun hg => hg.ends j HKL.out (by rw [← HY.out, ← HN.out]; exact HDE.out.symm))
              go_wp2_with fail
              refine HCALL.out.mono ?_
              rintro e w3 ⟨rfl, hb3⟩
              have HB3 := Lib.hid (HB2.out.trans (hb3.mono HB2.out.size))
              clear hb3
              rw [show pairR none = (0, false) from rfl]
              go_wp2
              go_ret
              exact checkPost_bad (by decide) hbad.out HB3.out
            | some z =>
              go_wp2_with fail
              refine HCALL.out.mono ?_
              rintro e w3 ⟨rfl, hb3⟩
              have HB3 := Lib.hid (HB2.out.trans (hb3.mono HB2.out.size))
              clear hb3
              rw [show pairR (some z) = (z, true) from rfl]
              go_wp2
              go_roundw
              case rel =>
                refine ⟨j + 1, by omega, by go_num, HB3.out, fun i hi => ?_⟩
                rcases Nat.lt_succ_iff_lt_or_eq.1 hi with h | rfl
                · exact HK.out i h
                · rw [← HY.out, ← HN.out, ← HDE.out]; exact fun h => by cases h
              case measure => simp [intOf]; omega
          · obtain rfl : j = k := by omega
            have hgood : Good l := ⟨by rw [← HN.out]; exact h8, fun i hi => (HK1.out i (by rw [HN.out]; exact hi)).1, fun i hi => (HK1.out i (by rw [HN.out]; exact hi)).2.1, fun i hi => (HK1.out i (by rw [HN.out]; exact hi)).2.2, fun i hi => HK.out i (by rw [HN.out]; exact hi)⟩
            have HG := Lib.hid hgood
            clear hgood hkn hj
            go_wp2
            go_ret
            exact ⟨0, rfl, hbel, .inl ⟨rfl, HG.out⟩⟩
  · have h8' : (8 : Int) < n := by omega
    have hbad := Lib.hid (show ¬ Good l from fun hg => h8 (by rw [HN.out]; exact hg.len))
    clear h8
    go_enter Try.func38, Try.ntmps38
    go_wp2
    go_ret
    exact checkPost_bad (by decide) hbad.out (Below.refl _ _)
theorem downG_is {w : World} {v : Value} {l : List Mt} (x : Int) (hg : Good l) (hx : inode x) (hm : MS w v l) : Calls Try.prog 40 #[v, .int .i64 x] w fun e w' => e = .returned (.tuple #[.int .i64 (to l x), .int .i64 0]) ∧ Below w.heap.size w w' := by
  have hcheck := check_is hm
  have hdown := fun w' (hb : Below w.heap.size w w') => down_is (w := w') x (Nat.le_trans hg.len (by decide)) (hm.below hb)
  rw [to_is hg x] at hdown
  rw [show pairR (some (to l x)) = (to l x, true) from rfl] at hdown
  have dx := Lib.hid (decide_eq_true hx)
  have HG := Lib.hid hg
  have HC := Lib.hid hcheck
  have HD := Lib.hid hdown
  obtain ⟨a, cap, rfl, _⟩ := hm
  generalize to l x = z at *
  clear hcheck hdown hg hx
  go_enter Try.func40, Try.ntmps40
  go_wp2_with fail
  refine HC.out.mono ?_
  rintro e w1 ⟨en, rfl, hb1, hcase⟩
  have hen : en = 0 := by
    rcases hcase with ⟨h, _⟩ | ⟨_, h⟩
    · exact h
    · exact absurd HG.out h
  subst hen
  have HB1 := Lib.hid hb1
  clear hb1 hcase
  go_wp2_with fail
  refine (inode_any _ _).mono ?_
  rintro e w2 ⟨rfl, rfl⟩
  rw [dx.out]
  go_wp2_with fail
  refine (HD.out _ HB1.out).mono ?_
  rintro e w2 ⟨rfl, hb2⟩
  have HB2 := Lib.hid (HB1.out.trans (hb2.mono HB1.out.size))
  clear hb2
  go_wp2
  go_ret2
  exact ⟨rfl, HB2.out⟩
end Go.Proofs.Ytddfgdodpjmjfaa.MountLaw
