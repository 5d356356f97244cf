/- The walks of slices.Clone and slices.Equal at uint32. -/
import Derived.Test.YtopadiofanaaiaaTurnStep
namespace Go.Proofs.Ytopadiofanaaiaa.TurnLaw
open Go.RowKit
set_option linter.unusedVariables false

theorem info33 : (Try.prog.info? 33).map (fun i => (i.zero, i.size, i.bytes)) = some (some (.int .u32 0), 1, 4) := by kernel_rfl
theorem u32V_one (l : List Nat) : ∀ u ∈ l.map u32V, u.oneCell' = true := by
  intro u hu
  obtain ⟨x, _, rfl⟩ := List.mem_map.1 hu
  rfl
theorem cells_u32 {w : World} {b off : Nat} {l : List Nat} (h : ∀ i, i < l.length → w.cell? ⟨b, off + i, none⟩ = some (u32V (l.getD i 0))) : ∀ j u, (l.map u32V)[j]? = some u → w.cell? ((⟨b, off, none⟩ : Addr).add j) = some u := by
  intro j u hj
  rw [Addr.add_lit]
  rw [List.getElem?_map] at hj
  have hlt : j < l.length := by
    rcases Nat.lt_or_ge j l.length with h | h
    · exact h
    · rw [List.getElem?_eq_none h] at hj; cases hj
  rw [h j hlt]
  simp [hlt] at hj
  simp [List.getD, hlt, hj]
def ClonePostU (l : List Nat) (w : World) (e : Ending) (w' : World) : Prop := ∃ v', e = .returned v' ∧ U32Row w' w.heap.size v' l ∧ Below w.heap.size w w'
set_option maxRecDepth 100000 in
set_option maxHeartbeats 400000 in
theorem cloneU_is {w : World} {v : Value} {l : List Nat} (h8 : l.length ≤ 64) (hm : U32S w v l) : Calls Try.prog 17 #[v] w (ClonePostU l w) := by
  obtain ⟨a, cap, rfl, hl, hcap, hm⟩ := hm
  have q22 : ∀ (w : World) (a : Option Addr) (n c n' c' : Nat), (binOp .eql 31 (.slice a n c) (.slice none n' c')).run Try.prog w = .ok (.bool a.isNone) w := fun w a n c n' c' => Lib.run_eql_slice_nil w _ _ a n c n' c' Try.underlying31
  cases a with
  | none =>
    have h0 : l = [] := by
      rcases hm with h | ⟨b, off, h, _⟩
      · exact h
      · cases h
    subst h0
    clear hm
    go_enter Try.func17, Try.ntmps17
    go_wp2
    go_ret
    exact ⟨_, rfl, World.ownsRow_nil _ _ _ _, Below.refl _ _⟩
  | some ad =>
    have hcl : ∀ j u, (l.map u32V)[j]? = some u → w.cell? (ad.add j) = some u := by
      rcases hm with h | ⟨b, off, hab, hlt, hc⟩
      · intro j u hj
        subst h
        simp at hj
      · simp only [Option.some.injEq] at hab
        subst hab
        exact fun j u hj => cells_u32 hc j u hj
    have hlen : (l.map u32V).length = l.length * 1 := by simp
    have hone := u32V_one l
    obtain ⟨n, hn⟩ : ∃ n, n = l.length := ⟨_, rfl⟩
    unfold ClonePostU U32Row
    rw [← hn] at h8 hl hlen ⊢
    generalize l.map u32V = cs at *
    have HC := Lib.hid hcl
    have HO := Lib.hid hone
    clear hm hn hcl hone
    obtain ⟨i0, hi, hz0, hz1, hz2⟩ := info_parts info33
    go_enter Try.func17, Try.ntmps17
    go_wp2_with (at_builtin; go_loud (refine wpList_append_fresh _ rfl (.tmp 5) (.tmp 6) 31 rfl w.heap.size 33 i0 (.int .u32 0) 1 4 Try.underlying31 hi hz0 hz1 hz2 rfl (by decide) _ _ _ rfl (World.ownsRow_made w #[] 0 (Nat.le_refl _) (Nat.zero_le _) rfl) ad n _ cs rfl hlen (fun j u h => by have := HC.out j u h; rw [World.cell?_alloc_lt]; exact this; exact World.block_lt_of_cell? w _ this) HO.out (by unfold maxLen; omega) (by omega) (by simp) ?_))
    intro v' w1 hown hgrow hfresh
    have hb1 : Below w.heap.size w w1 := ((Below.refl _ _).alloc (Nat.le_refl _) _).grown hgrow (by simp) (fun g hg => by simp [Value.ownBlock] at hg; omega)
    clear hgrow hfresh
    rcases hown.2 with ⟨rfl, hn⟩ | ⟨g, cap', cur, rfl, hb, hg, hnc, hcm, hcs, htake⟩
    · go_wp2
      go_ret
      exact ⟨_, rfl, by simpa using hown, hb1⟩
    · clear hb hg hnc hcm hcs htake
      go_wp2
      go_ret
      exact ⟨_, rfl, by simpa using hown, hb1⟩

set_option maxHeartbeats 400000 in
theorem equalU_is {w : World} {v v' : Value} {l t : List Nat} (h : U32S w v l) (h' : U32S w v' t) : Calls Try.prog 21 #[v, v'] w fun e w' => e = .returned (.bool (decide (l = t))) ∧ Below w.heap.size w w' := by
  obtain ⟨a, cap, rfl, hl, hcap, h⟩ := h
  obtain ⟨a', cap', rfl, hl', hcap', h'⟩ := h'
  have hlen : l.length ≤ 9223372036854775807 := by unfold maxLen at hcap; omega
  obtain ⟨n, hn⟩ : ∃ n, n = l.length := ⟨_, rfl⟩
  obtain ⟨n', hn'⟩ : ∃ n, n = t.length := ⟨_, rfl⟩
  rw [← hn] at hl hlen ⊢
  rw [← hn'] at hl' ⊢
  have HN := Lib.hid hn
  have HN' := Lib.hid hn'
  have HL := Lib.hid h
  have HM := Lib.hid h'
  clear hn hn' h h' hcap hcap'
  by_cases hnn : n = n'
  · subst hnn
    go_enter Try.func21, Try.ntmps21
    go_wp2
    go_loopw [13] (fun i wr => ∃ k : Nat, k ≤ n ∧ i = .int .i64 k ∧ Below w.heap.size w wr ∧ Hid (∀ j, j < k → l.getD j 0 = t.getD j 0)) (fun i _ => n - (intOf i).toNat)
    case atStart => exact ⟨0, Nat.zero_le _, rfl, Below.refl _ _, fun j hj => absurd hj (Nat.not_lt_zero _)⟩
    case round =>
      obtain ⟨k, hk, rfl, hbel, HK⟩ := hrel
      by_cases hlt : k < n
      · rcases HL.out with h0 | ⟨b, off, rfl, hb, hc⟩
        · have := HN.out; rw [h0] at this; simp at this; omega
        rcases HM.out with h0 | ⟨b', off', rfl, hb', hc'⟩
        · have := HN'.out; rw [h0] at this; simp at this; omega
        have g := (hbel.cell (p := ⟨b, off + k, none⟩) hb).trans (hc k (by rw [← HN.out]; exact hlt))
        have e := (hbel.cell (p := ⟨b', off' + k, none⟩) hb').trans (hc' k (by rw [← HN'.out]; exact hlt))
        obtain ⟨x, hx⟩ : ∃ x, x = l.getD k 0 := ⟨_, rfl⟩
        obtain ⟨y, hy⟩ : ∃ x, x = t.getD k 0 := ⟨_, rfl⟩
        rw [← hx] at g
        rw [← hy] at e
        unfold u32V at g e
        have HX := Lib.hid hx
        have HY := Lib.hid hy
        have HBE := Lib.hid hbel
        clear hc hc' hx hy hbel
        by_cases hxy : x = y
        · subst hxy
          go_wp2
          go_quiet (fail)
          go_wp2
          go_roundw
          case rel =>
            refine ⟨k + 1, by omega, by go_num, below_drewN HBE.out _, fun j hj => ?_⟩
            rcases Nat.lt_succ_iff_lt_or_eq.1 hj with h | rfl
            · exact HK.out j h
            · rw [← HX.out, ← HY.out]
          case measure => simp [intOf]; omega
        · have hb : ((x : Int) != (y : Int)) = true := by simp; omega
          have HXY := Lib.hid hxy
          clear hxy
          go_wp2
          go_quiet (fail)
          go_wp2
          go_ret
          exact ⟨ret_bool (decide_eq_false (fun e => HXY.out (by rw [HX.out, HY.out, e]))).symm, below_drewN HBE.out _⟩
      · obtain rfl : k = n := by omega
        go_wp2
        go_ret
        exact ⟨ret_bool (decide_eq_true (lists_same (by rw [← HN.out, ← HN'.out]) (fun j hj => HK.out j (by rw [HN.out]; exact hj)))).symm, hbel⟩
  · have hb : ((n : Int) != (n' : Int)) = true := by simp; omega
    have HNE := Lib.hid hnn
    clear hnn
    go_enter Try.func21, Try.ntmps21
    go_wp2
    go_ret
    exact ⟨ret_bool (decide_eq_false (fun e => HNE.out (by rw [HN.out, HN'.out, e]))).symm, Below.refl _ _⟩
end Go.Proofs.Ytopadiofanaaiaa.TurnLaw
