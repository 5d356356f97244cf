/- The walks of slices.Delete (the last element), mount.Out, slices.Equal. -/
import Derived.Test.YtddfgdodpjmjfaaMountSeen
import Derived.BigRegion
import Derived.ArgAppend
namespace Go.Proofs.Ytddfgdodpjmjfaa.MountLaw
open Go.RowKit
set_option linter.unusedVariables false

theorem zero80 (w : World) : (zeroValue 80).run Try.prog w = .ok (.agg #[.int .i64 0, .int .i64 0]) w := by
  obtain ⟨i0, hi, hz0, hz1, hz2⟩ := info_parts info80
  simp [zeroValue, typeInfo, hi, hz0]
theorem clear_one (w : World) (g o c : Nat) (c0 : (w.cell? ⟨g, o, none⟩).isSome = true) (c1 : (w.cell? ⟨g, o + 1, none⟩).isSome = true) (f0 : w.frozen? ⟨g, o, none⟩ = false) (f1 : w.frozen? ⟨g, o + 1, none⟩ = false) :
    (Builtin.clear_ #[68] 0 #[.slice (some ⟨g, o, none⟩) 1 c]).run Try.prog w = .ok (.tuple #[]) (w.setCells g o [.int .i64 0, .int .i64 0]) := by
  have hzc : (Builtin.zeroCells (Value.agg #[.int .i64 0, .int .i64 0]).cells 1).toList = [.int .i64 0, .int .i64 0] := by
    simp [Builtin.zeroCells, Value.cells]
    rfl
  have hst := run_storeCells_cells (P := Try.prog) g o [.int .i64 0, .int .i64 0] 0 w (by
    intro j hj
    have : j = 0 ∨ j = 1 := by simp at hj; omega
    rcases this with rfl | rfl
    · simpa using c0
    · simpa using c1) (by
    intro j hj
    have : j = 0 ∨ j = 1 := by simp at hj; omega
    rcases this with rfl | rfl
    · simpa using f0
    · simpa using f1) one2
  simp only [Nat.add_zero] at hst
  simp only [Builtin.clear_]
  simp [run_underlying Try.underlying68, zero80, hzc, hst]
set_option maxRecDepth 100000 in
set_option maxHeartbeats 1000000 in
theorem delete_last (w : World) (g n cap : Nat) (hn : n ≤ 8) (hc : n + 1 ≤ cap)
    (c0 : (w.cell? ⟨g, n * 2, none⟩).isSome = true) (c1 : (w.cell? ⟨g, n * 2 + 1, none⟩).isSome = true) (f0 : w.frozen? ⟨g, n * 2, none⟩ = false) (f1 : w.frozen? ⟨g, n * 2 + 1, none⟩ = false) :
    Calls Try.prog 72 #[.slice (some ⟨g, 0, none⟩) (n + 1) cap, .int .i64 n, .int .i64 ((n : Int) + 1)] w fun e w' => e = .returned (.slice (some ⟨g, 0, none⟩) n cap) ∧ w' = w.drew.setCells g (n * 2) [.int .i64 0, .int .i64 0] := by
  have h01 : (0 : Int) ≤ n := by omega
  have h02 : (n : Int) ≤ n + 1 := by omega
  have h03 : ((n : Int) == (n : Int) + 1) = false := by simp; omega
  have h04 : n ≤ cap := by omega
  obtain ⟨i0, hi, hz0, hz1, hz2⟩ := info_parts info80
  have hadd : ∀ (w : World) (ad : Addr) (c' : Nat), (Builtin.append_ #[68, 68] 68 #[.slice (some ⟨g, 0, none⟩) n cap, .slice (some ad) 0 c']).run Try.prog w = .ok (.slice (some ⟨g, 0, none⟩) n cap) w := by
    intro w ad c'
    have := run_append_room_cells w 68 68 80 i0 Try.underlying68 hi g 0 n cap ad 0 c' [] (by simp) (by simp) (by simp) (by omega) (by simp) (by simp)
    simpa [World.setCells] using this
  have hclr : ∀ c, (Builtin.clear_ #[68] 0 #[.slice (some ⟨g, n * 2, none⟩) 1 c]).run Try.prog w.drew = .ok (.tuple #[]) (w.drew.setCells g (n * 2) [.int .i64 0, .int .i64 0]) := fun c => clear_one w.drew g (n * 2) c (by rw [World.cell?_drew, c0]) (by rw [World.cell?_drew, c1]) (by rw [World.frozen?_drew, f0]) (by rw [World.frozen?_drew, f1])
  clear hi hz0 hz1 hz2 c0 c1 f0 f1
  by_cases hcap : cap = n + 1
  · subst hcap
    go_enter Try.func72, Try.ntmps72
    go_wp2
    go_region
    all_goals
      go_wp2
      go_ret
      exact ⟨rfl, rfl⟩
  · go_enter Try.func72, Try.ntmps72
    go_wp2
    go_region
    all_goals
      go_wp2
      go_ret
      exact ⟨rfl, rfl⟩
theorem set_far {w : World} {g o i : Nat} {u v : Value} (h : i < o) : (w.setCells g o [u, v]).cell? ⟨g, i, none⟩ = w.cell? ⟨g, i, none⟩ := by
  simp only [World.setCells]
  rw [World.cell?_setCell_other, World.cell?_setCell_other]
  · intro e; have := congrArg Addr.off e; simp at this; omega
  · intro e; have := congrArg Addr.off e; simp at this; omega
theorem getD_left {l t : List Mt} {i : Nat} (h : i < l.length) : (l ++ t).getD i m0 = l.getD i m0 := by simp [List.getD, List.getElem?_append_left h]
theorem getD_last (l : List Mt) (m : Mt) : (l ++ [m]).getD l.length m0 = m := by simp [List.getD]
def OutPost (l : List Mt) (w : World) (e : Ending) (w' : World) : Prop := ∃ v', e = .returned (.tuple #[v', .int .i64 0]) ∧ Below w.heap.size w w' ∧ MS w' v' l
set_option maxRecDepth 100000 in
set_option maxHeartbeats 1000000 in
theorem out_is {w : World} {v : Value} {l : List Mt} {m : Mt} (hg : Good (l ++ [m])) (hm : MS w v (l ++ [m])) : Calls Try.prog 43 #[v, .int .i64 m.a] w (OutPost l w) := by
  have HC := Lib.hid (check_is hm)
  have hfind := fun w' (hb : Below w.heap.size w w') => find_is m.a (hm.below hb)
  have hclone := fun w' (hb : Below w.heap.size w w') => clone_is (w := w') (Nat.le_trans hg.len (by decide)) (hm.below hb)
  have h8 := hg.len
  simp only [List.length_append, List.length_singleton] at h8
  have HF := Lib.hid hfind
  have HCL := Lib.hid hclone
  have HG := Lib.hid hg
  obtain ⟨a, cap, rfl, _⟩ := hm
  obtain ⟨N, hN⟩ : ∃ N, N = (l ++ [m]).length := ⟨_, rfl⟩
  have hNl : N = l.length + 1 := by rw [hN]; simp
  have HN := Lib.hid hNl
  obtain ⟨n, hn⟩ : ∃ n, n = l.length := ⟨_, rfl⟩
  rw [← hn] at h8
  have HNN := Lib.hid hn
  rw [← hN] at HC HF HCL ⊢
  clear hfind hclone hg hN hNl hn
  go_enter Try.func43, Try.ntmps43
  go_wp2_with fail
  refine HC.out.mono ?_
  rintro e w1 ⟨en, rfl, hb1, hcase⟩
  have hen : en = 0 := by
    rcases hcase with ⟨h, _⟩ | ⟨_, h⟩
    · exact h
    · exact absurd HG.out h
  subst hen
  have HB1 := Lib.hid hb1
  clear hb1 hcase
  go_wp2_with fail
  refine (HF.out _ HB1.out).mono ?_
  rintro e w2 ⟨⟨r, rfl, hr⟩, hb2⟩
  have HB2 := Lib.hid (HB1.out.trans (hb2.mono HB1.out.size))
  have hrn : r = n := by
    have hk : l.length < (l ++ [m]).length := by simp
    have hr2 : FindIs (l ++ [m]) ((l ++ [m]).getD l.length m0).a r := by rw [getD_last]; exact hr
    rcases find_self hk hr2 with ⟨j, _, hj, he⟩ | ⟨h, _⟩
    · exact absurd he (HG.out.once l.length hk j hj)
    · rw [h, HNN.out]
  subst hrn
  clear hb2 hr
  go_wp2_with fail
  refine (HCL.out _ HB2.out).mono ?_
  rintro e w3 ⟨v', rfl, hown, hb3⟩
  have HB3 := Lib.hid (HB2.out.trans (hb3.mono HB2.out.size))
  rcases hown.2 with ⟨_, h0⟩ | ⟨g, cap', cur, rfl, hbase, hgc, hnc, hcm, hcs, htake⟩
  · simp at h0
  have hlenE : (l ++ [m]).length = n + 1 := by rw [HNN.out]; simp
  have hfz : ∀ i, w3.frozen? ⟨g, i, none⟩ = false := fun i => frozen_of_row _ _ _ _ _ hgc
  have hcells := cellsM_at (l ++ [m])
  have hcl := hown.cells (g := g) rfl
  have hat : ∀ i, i < n + 1 → w3.cell? ⟨g, i * 2, none⟩ = some (.int .i64 ((l ++ [m]).getD i m0).a) ∧ w3.cell? ⟨g, i * 2 + 1, none⟩ = some (.int .i64 ((l ++ [m]).getD i m0).r) := fun i hi => by
    have hc := hcells i (by rw [hlenE]; exact hi)
    constructor
    · have := hcl _ _ hc.1
      rw [Addr.add_lit] at this
      simpa using this
    · have := hcl _ _ hc.2
      rw [Addr.add_lit] at this
      simpa using this
  rw [hlenE] at hnc ⊢
  have HAT := Lib.hid hat
  have HFZ := Lib.hid hfz
  have HBA := Lib.hid (show w.heap.size ≤ g from Nat.le_trans HB2.out.size hbase)
  have HCM := Lib.hid hcm
  have HGL := Lib.hid (show g < w3.heap.size from (Array.getElem?_eq_some_iff.1 hgc).1)
  clear hb3 hown hgc hcs htake hcells hcl hat hfz hlenE hcm hbase
  go_wp2_with fail
  refine (delete_last w3 g n cap' (by omega) hnc (by rw [(HAT.out n (by omega)).1]; rfl) (by rw [(HAT.out n (by omega)).2]; rfl) (HFZ.out _) (HFZ.out _)).mono ?_
  rintro e w4 ⟨rfl, rfl⟩
  have hB4 : Below w.heap.size w (w3.drew.setCells g (n * 2) [.int .i64 0, .int .i64 0]) := by
    simp only [World.setCells]
    exact Below.setCell (Below.setCell HB3.out.drew HBA.out _) HBA.out _
  have hM4 : MS (w3.drew.setCells g (n * 2) [.int .i64 0, .int .i64 0]) (.slice (some ⟨g, 0, none⟩) n cap') l := by
    refine ⟨_, cap', by rw [HNN.out], by rw [← HNN.out]; omega, HCM.out, .inr ⟨g, 0, rfl, by simpa [World.setCells] using HGL.out, fun i hi => ?_⟩⟩
    have hin : i < n := by rw [HNN.out]; exact hi
    rw [Nat.zero_add, set_far (by omega), set_far (by omega), World.cell?_drew, World.cell?_drew]
    have := HAT.out i (by omega)
    rw [getD_left hi] at this
    exact this
  have HB4 := Lib.hid hB4
  have HM4 := Lib.hid hM4
  clear hB4 hM4
  generalize w3.drew.setCells g (n * 2) [.int .i64 0, .int .i64 0] = w5 at *
  go_wp2
  go_ret2
  exact ⟨_, rfl, HB4.out, HM4.out⟩
set_option maxHeartbeats 400000 in
theorem equal_is {w : World} {v v' : Value} {l : List Mt} (h8 : l.length ≤ 9) (h : MS w v l) (h' : MS w v' l) : Calls Try.prog 44 #[v, v'] w fun e w' => e = .returned (.bool true) ∧ Below w.heap.size w w' := by
  obtain ⟨a, cap, rfl, hl, hcap, h⟩ := h
  obtain ⟨a', cap', rfl, hl', hcap', h'⟩ := h'
  obtain ⟨n, hn⟩ : ∃ n, n = l.length := ⟨_, rfl⟩
  rw [← hn] at h8 hl hl' ⊢
  have HN := Lib.hid hn
  have HL := Lib.hid h
  have HM := Lib.hid h'
  clear hn h h' hcap hcap'
  go_enter Try.func44, Try.ntmps44
  go_wp2
  go_loopw [13] (fun i wr => ∃ k : Nat, k ≤ n ∧ i = .int .i64 k ∧ Below w.heap.size w wr) (fun i _ => n - (intOf i).toNat)
  case atStart => exact ⟨0, Nat.zero_le _, rfl, Below.refl _ _⟩
  case round =>
    obtain ⟨k, hk, rfl, hbel⟩ := hrel
    by_cases hlt : k < n
    · rcases HL.out with h0 | ⟨b, off, rfl, hb, hc⟩
      · have := HN.out; omega
      rcases HM.out with h0 | ⟨b', off', rfl, hb', hc'⟩
      · have := HN.out; omega
      have hkl : k < l.length := by rw [← HN.out]; exact hlt
      have g1 := (hbel.cell (p := ⟨b, off + k * 2, none⟩) hb).trans (hc k hkl).1
      have g2 := (hbel.cell (p := ⟨b, off + k * 2 + 1, none⟩) hb).trans (hc k hkl).2
      have e1 := (hbel.cell (p := ⟨b', off' + k * 2, none⟩) hb').trans (hc' k hkl).1
      have e2 := (hbel.cell (p := ⟨b', off' + k * 2 + 1, none⟩) hb').trans (hc' k hkl).2
      generalize l.getD k m0 = r at *
      clear hc hc'
      go_wp2
      go_quiet (fail)
      go_wp2
      go_roundw
      case rel => exact ⟨k + 1, by omega, by go_num, below_drewN hbel _⟩
      case measure => simp [intOf]; omega
    · obtain rfl : k = n := by omega
      go_wp2
      go_ret
      exact ⟨rfl, hbel⟩
end Go.Proofs.Ytddfgdodpjmjfaa.MountLaw
