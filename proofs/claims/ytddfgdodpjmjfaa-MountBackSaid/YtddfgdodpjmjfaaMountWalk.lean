/- The walks of package mount: inode, find, down. -/
import Derived.Test.YtddfgdodpjmjfaaMountPlain
import Derived.Test.YtddfgdodpjmjfaaCommon
import Derived.Test.YtddfgdodpjmjfaaTab
import Derived.WalkSmall
import Derived.BigQuiet
namespace Go.Proofs.Ytddfgdodpjmjfaa.MountLaw
open Go.RowKit
set_option linter.unusedVariables false

def MS (w : World) (v : Value) (l : List Mt) : Prop :=
  ∃ (a : Option Addr) (cap : Nat), v = .slice a l.length cap ∧ l.length ≤ cap ∧ cap ≤ maxLen ∧ (l.length = 0 ∨ ∃ b off, a = some ⟨b, off, none⟩ ∧ b < w.heap.size ∧
    ∀ i, i < l.length → w.cell? ⟨b, off + i * 2, none⟩ = some (.int .i64 (l.getD i m0).a) ∧ w.cell? ⟨b, off + i * 2 + 1, none⟩ = some (.int .i64 (l.getD i m0).r))
theorem MS.below {w w' : World} {v : Value} {l : List Mt} (h : MS w v l) (hb : Below w.heap.size w w') : MS w' v l := by
  obtain ⟨a, cap, hv, hl, hm, h⟩ := h
  refine ⟨a, cap, hv, hl, hm, ?_⟩
  rcases h with h | ⟨b, off, ha, hlt, hc⟩
  · exact .inl h
  · exact .inr ⟨b, off, ha, Nat.lt_of_lt_of_le hlt hb.size, fun i hi => ⟨(hb.cell (p := ⟨b, _, none⟩) hlt).trans (hc i hi).1, (hb.cell (p := ⟨b, _, none⟩) hlt).trans (hc i hi).2⟩⟩

theorem inode_any (n : Int) (w : World) : Calls Try.prog 67 #[.int .i64 n] w fun e w' => e = .returned (.bool (decide (inode n))) ∧ w = w' := by
  by_cases h1 : 1 ≤ n
  · by_cases h2 : n ≤ 32
    · have hd : Hid (decide (inode n) = true) := decide_eq_true ⟨h1, h2⟩
      go_enter Try.func67, Try.ntmps67
      go_wp2
      go_ret
      exact ⟨ret_bool hd.out.symm, rfl⟩
    · have hd : Hid (decide (inode n) = false) := decide_eq_false fun h => h2 h.2
      go_enter Try.func67, Try.ntmps67
      go_wp2
      go_ret
      exact ⟨ret_bool hd.out.symm, rfl⟩
  · have hd : Hid (decide (inode n) = false) := decide_eq_false fun h => h1 h.1
    go_enter Try.func67, Try.ntmps67
    go_wp2
    go_ret
    exact ⟨ret_bool hd.out.symm, rfl⟩
/-- the closure of find: is it this one? -/
theorem same_is {w : World} {p : Addr} {x : Int} (m : Mt) (h : w.cell? p = some (.int .i64 x)) : Calls Try.prog 80 #[.agg #[.int .i64 m.a, .int .i64 m.r], .pointer (some p)] w fun e w' => e = .returned (.bool (m.a == x)) ∧ Below w.heap.size w w' := by
  have h2 : (w.alloc (.cells #[.int .i64 m.a, .int .i64 m.r] 80)).cell? p = some (.int .i64 x) := by
    rw [World.cell?_alloc_lt]
    · exact h
    · exact World.block_lt_of_cell? w _ h
  clear h
  go_enter Try.func80, Try.ntmps80
  go_wp2
  go_ret
  exact ⟨rfl, Go.Joins.below_alloc1 _ _⟩
theorem first_is {w : World} {v : Value} {l : List Mt} {p : Addr} {x : Int} (hm : MS w v l) (hp : w.cell? p = some (.int .i64 x)) : Calls Try.prog 79 #[v, .func (.func 80) #[] #[.pointer (some p)]] w fun e w' => (∃ r, e = .returned (.int .i64 r) ∧ FindIs l x r) ∧ Below w.heap.size w w' := by
  obtain ⟨a, cap, rfl, hl, hcap, hm⟩ := hm
  have hlen : l.length ≤ 9223372036854775807 := by unfold maxLen at hcap; omega
  obtain ⟨n, hn⟩ : ∃ n, n = l.length := ⟨_, rfl⟩
  rw [← hn] at hl hlen ⊢
  have HN := Lib.hid hn
  have HM := Lib.hid hm
  have HP := Lib.hid hp
  clear hn hm hp hcap
  go_enter Try.func79, Try.ntmps79
  go_wp2
  go_loopw [8] (fun i wr => ∃ k : Nat, k ≤ n ∧ i = .int .i64 k ∧ Below w.heap.size w wr ∧ Hid (∀ j, j < k → (l.getD j m0).a ≠ x)) (fun i _ => n - (intOf i).toNat)
  case atStart => exact ⟨0, Nat.zero_le _, rfl, Below.refl _ _, fun j hj => absurd hj (Nat.not_lt_zero _)⟩
  case round =>
    obtain ⟨k, hk, rfl, hbel, HK⟩ := hrel
    by_cases hkn : k < n
    · rcases HM.out with h0 | ⟨b, off, rfl, hlt, hcell⟩
      · have := HN.out; omega
      obtain ⟨y, hy⟩ : ∃ y, y = l.getD k m0 := ⟨_, rfl⟩
      have g1 := (hbel.cell (p := ⟨b, off + k * 2, none⟩) hlt).trans (hcell k (by rw [← HN.out]; exact hkn)).1
      have g2 := (hbel.cell (p := ⟨b, off + k * 2 + 1, none⟩) hlt).trans (hcell k (by rw [← HN.out]; exact hkn)).2
      rw [← hy] at g1 g2
      have hpw := (hbel.cell (p := p) (World.block_lt_of_cell? w _ HP.out)).trans HP.out
      have HY := Lib.hid hy
      have HCALL := Lib.hid (same_is y hpw)
      have HBE := Lib.hid hbel
      clear hy hcell hpw hbel
      by_cases hxy : y.a = x
      · have hb : (y.a == x) = true := by simp [hxy]
        have HXY := Lib.hid hxy
        have HB := Lib.hid hb
        clear hxy hb
        go_wp2_with fail
        refine HCALL.out.mono ?_
        rintro e w3 ⟨rfl, hb3⟩
        rw [HB.out]
        go_wp2
        go_ret
        exact ⟨⟨k, rfl, .inr ⟨k, rfl, by rw [← HN.out]; exact hkn, by rw [← HY.out]; exact HXY.out, HK.out⟩⟩, HBE.out.trans (hb3.mono HBE.out.size)⟩
      · have hb : (y.a == x) = false := by simp [hxy]
        have HXY := Lib.hid hxy
        have HB := Lib.hid hb
        clear hxy hb
        go_wp2_with fail
        refine HCALL.out.mono ?_
        rintro e w3 ⟨rfl, hb3⟩
        have HB3 := Lib.hid (HBE.out.trans (hb3.mono HBE.out.size))
        clear hb3
        rw [HB.out]
        go_wp2
        go_roundw
        case rel =>
          refine ⟨k + 1, by omega, by go_num, HB3.out, fun j hj => ?_⟩
          rcases Nat.lt_succ_iff_lt_or_eq.1 hj with h | rfl
          · exact HK.out j h
          · rw [← HY.out]; exact HXY.out
        case measure => simp [intOf]; omega
    · obtain rfl : k = n := by omega
      go_wp2
      go_ret
      exact ⟨⟨-1, rfl, .inl ⟨rfl, fun j hj => HK.out j (by rw [HN.out]; exact hj)⟩⟩, hbel⟩
theorem find_is {w : World} {v : Value} {l : List Mt} (x : Int) (hm : MS w v l) : Calls Try.prog 68 #[v, .int .i64 x] w fun e w' => (∃ r, e = .returned (.int .i64 r) ∧ FindIs l x r) ∧ Below w.heap.size w w' := by
  have hmf : ∀ (fn : Fn) (first cap : Array Value) (w : World), (Instr.makeFunc fn first cap).run Try.prog w = .ok (.func fn first cap) w := fun _ _ _ _ => rfl
  have hA : Below w.heap.size w (w.alloc (.cells #[.int .i64 x] 3)) := Go.Joins.below_alloc1 _ _
  have HC := Lib.hid (first_is (p := ⟨w.heap.size, 0, none⟩) (x := x) (hm.below hA) (by simp [go_sem]))
  have HA := Lib.hid hA
  clear hA hm
  go_enter Try.func68, Try.ntmps68
  go_wp2_with fail
  refine HC.out.mono ?_
  rintro e w1 ⟨⟨r, rfl, hr⟩, hb1⟩
  have HR := Lib.hid hr
  have HB := Lib.hid (HA.out.trans (hb1.mono HA.out.size))
  clear hr hb1
  go_wp2
  go_ret
  exact ⟨⟨r, rfl, HR.out⟩, HB.out⟩
def pairR (o : Option Int) : Int × Bool := match o with | none => (0, false) | some x => (x, true)
theorem down_is {w : World} {v : Value} {l : List Mt} (x : Int) (h8 : l.length ≤ 9) (hm : MS w v l) : Calls Try.prog 69 #[v, .int .i64 x] w fun e w' => e = .returned (.tuple #[.int .i64 (pairR (downR l (l.length + 1) x)).1, .bool (pairR (downR l (l.length + 1) x)).2]) ∧ Below w.heap.size w w' := by
  have hfind := fun w' (hb : Below w.heap.size w w') (y : Int) => find_is y (hm.below hb)
  obtain ⟨a, cap, rfl, hl, hcap, hm⟩ := hm
  obtain ⟨n, hn⟩ : ∃ n, n = l.length := ⟨_, rfl⟩
  rw [← hn] at hl hfind h8 ⊢
  obtain ⟨D, hD⟩ : ∃ D, D = downR l (n + 1) x := ⟨_, rfl⟩
  rw [← hD]
  have HN := Lib.hid hn
  have HM := Lib.hid hm
  have HF := Lib.hid hfind
  have HD := Lib.hid hD
  clear hn hm hcap hfind hD
  go_enter Try.func69, Try.ntmps69
  go_wp2
  go_loopw [1, 10] (fun xv i wr => ∃ (k : Nat) (y : Int), k ≤ n + 1 ∧ xv = .int .i64 y ∧ i = .int .i64 k ∧ Below w.heap.size w wr ∧ Hid (D = downR l (n + 1 - k) y)) (fun _ i _ => n + 1 - (intOf i).toNat)
  case atStart => exact ⟨0, x, Nat.zero_le _, rfl, rfl, Below.refl _ _, HD.out⟩
  case round =>
    obtain ⟨k, y, hk, rfl, rfl, hbel, HK⟩ := hrel
    by_cases hkn : k < n + 1
    · have hki : (k : Int) < n + 1 := by omega
      have HKN := Lib.hid hkn
      have HBE := Lib.hid hbel
      obtain ⟨f, hf⟩ : ∃ f, n + 1 - k = f + 1 := ⟨n - k, by omega⟩
      have HFF := Lib.hid hf
      clear hf hkn hk
      go_wp2_with fail
      refine (HF.out _ hbel y).mono ?_
      rintro e w3 ⟨⟨r, rfl, hr⟩, hb3⟩
      have HB3 := Lib.hid (HBE.out.trans (hb3.mono HBE.out.size))
      clear hb3 hbel
      rcases hr with ⟨rfl, hnone⟩ | ⟨j, rfl, hj, hja, hbefore⟩
      · have HE := Lib.hid (show D = some y from HK.out.trans (by rw [HFF.out]; exact down_end (step_none hnone)))
        clear hnone
        go_wp2
        go_ret2
        exact ⟨by rw [HE.out]; rfl, HB3.out⟩
      · rcases HM.out with h0 | ⟨b, off, rfl, hlt, hcell⟩
        · have := HN.out; omega
        have HE := Lib.hid (show D = downR l f (l.getD j m0).r from HK.out.trans (by rw [HFF.out]; exact down_go (step_some hj hja hbefore)))
        have g2 := (HB3.out.cell (p := ⟨b, off + j * 2 + 1, none⟩) hlt).trans (hcell j hj).2
        have hjn : j < n := by rw [HN.out]; exact hj
        obtain ⟨z, hz⟩ : ∃ z, z = (l.getD j m0).r := ⟨_, rfl⟩
        rw [← hz] at g2 HE
        clear hcell hz hja hbefore hj
        go_wp2
        go_roundw
        case rel => exact ⟨k + 1, z, by have := HKN.out; omega, rfl, by go_num, HB3.out, by rw [show n + 1 - (k + 1) = f from by have := HFF.out; omega]; exact HE.out⟩
        case measure => have := HKN.out; simp [intOf]; omega
    · obtain rfl : k = n + 1 := by omega
      have HE := Lib.hid (show D = none from HK.out.trans (by rw [Nat.sub_self]; rfl))
      clear hkn hk
      go_wp2
      go_ret2
      exact ⟨by rw [HE.out]; rfl, hbel⟩
end Go.Proofs.Ytddfgdodpjmjfaa.MountLaw
