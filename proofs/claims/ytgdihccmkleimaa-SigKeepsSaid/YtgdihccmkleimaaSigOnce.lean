/- The law ringkeep5.SigOnce of its Go body: a signal that is sent twice is delivered once. -/
import Derived.Test.YtgdihccmkleimaaSigTake
namespace Go.Proofs.Ytgdihccmkleimaa.SigLaw
open Go.RowKit
set_option linter.unusedVariables false
theorem store_new (w : World) (g0 g : G) : (store58 (.pointer (some ⟨w.heap.size, 0, none⟩)) (.agg (cellsA g))).run Try.prog (w.alloc (.cells (cellsA g0) 58)) = .ok () (w.alloc (.cells (cellsA g) 58)) := by
  rw [(row_new w g0).store g, World.setRow_alloc_new]
theorem load_new (w : World) (g : G) : (load58 (.pointer (some ⟨w.heap.size, 0, none⟩))).run Try.prog (w.alloc (.cells (cellsA g) 58)) = .ok (.agg (cellsA g)) (w.alloc (.cells (cellsA g) 58)) := (row_new w g).load
theorem neq58 (w : World) (g : G) : (binOp .neq 58 (.agg (cellsA g)) (.agg (cellsA g))).run Try.prog w = .ok (.bool false) w := by
  rw [run_neq_struct, eq58]; rfl
theorem eql58 (w : World) (g : G) : (binOp .eql 58 (.agg (cellsA g)) (.agg (cellsA g))).run Try.prog w = .ok (.bool true) w := by
  rw [run_eql_struct, eq58]; rfl
attribute [local go_sem ↓] load58_eq store58_eq zero58 cells58 neq58 eql58
attribute [local go_sem] store_new load_new
theorem bb_right {g : G} {P M : Nat} (h : Right g P M) : BB g := by
  have a := h.p; have b := h.m; have c := h.pl; have d := h.ml
  unfold BB
  omega
theorem bb_zero : BB zeroG := by unfold BB; decide
theorem zero_right : Right zeroG 0 0 := ⟨rfl, rfl, by decide, by decide, by decide, by decide, by decide, fun _ _ => Int.le_refl _, rfl, rfl⟩
theorem two0 (w : World) (T : TypeId) : ∀ i, i < [(0 : Int), 0].length → (w.alloc (.cells #[.int .i64 0, .int .i64 0] T)).cell? ⟨w.heap.size, i, none⟩ = some (.int .i64 ([(0 : Int), 0].getD i 0)) := by
  intro i hi
  rw [cell_of_row _ _ _ _ _ _ (heap_alloc_new _ _)]
  have : i = 0 ∨ i = 1 := by simp at hi; omega
  rcases this with rfl | rfl <;> rfl
set_option maxRecDepth 100000 in
set_option maxHeartbeats 1000000 in
theorem sigs_is (w : World) : Calls Try.prog 30 #[] w fun e w' => e = .returned (.bool true) ∧ Below w.heap.size w w' := by
  have HS := Lib.hid (send_is zeroG 3 w bb_zero)
  go_enter Try.func30, Try.ntmps30
  go_wp2_with fail
  refine HS.out.mono ?_
  rintro e w1 ⟨en, g', rfl, hb1, hc⟩
  have hc2 : en = 0 ∧ Right g' 8 0 := by
    rcases hc with ⟨h0, k, P, M, hk, k1, k2, hr, rfl⟩ | ⟨-, -, h⟩
    · obtain rfl : k = 3 := by omega
      have hp : P = 0 := by have := hr.p; have e : zeroG.p = 0 := rfl; omega
      have hm : M = 0 := by have := hr.m; have e : zeroG.m = 0 := rfl; omega
      subst hp; subst hm
      have := sent_right hr (n := 3) (by decide) (by decide)
      rw [show sentP zeroG 0 3 = 8 from by decide] at this ⊢
      exact ⟨h0, this⟩
    · exact absurd ⟨⟨0, 0, zero_right⟩, by decide, by decide⟩ h
  obtain ⟨rfl, hr⟩ := hc2
  have HN := Lib.hid (next_is g' (w1.alloc (.cells (cellsA g') 58)) (bb_right hr))
  have HB1 := Lib.hid (hb1.alloc hb1.size (.cells (cellsA g') 58))
  have HR := Lib.hid hr
  clear hb1 hc hr
  go_wp2_with fail
  refine HN.out.mono ?_
  rintro e w2 ⟨n, en, rfl, hb2, hc⟩
  have hc2 : en = 0 ∧ n = 3 := by
    rcases hc with ⟨_, h⟩ | ⟨P', M', hr', ⟨h0, k, hk, k1, k2, hP, -, -⟩ | ⟨h4, -, h⟩⟩
    · exact absurd ⟨8, 0, HR.out⟩ h
    · have hp : P' = 8 := by have a := hr'.p; have b := HR.out.p; omega
      subst hp
      refine ⟨h0, ?_⟩
      have hex : ∀ k : Fin 16, (8 : Nat).testBit k.val = true → k.val = 3 := by decide
      have h3 : k = 3 := hex ⟨k, by omega⟩ hP
      omega
    · have hp : P' = 8 := by have a := hr'.p; have b := HR.out.p; omega
      have hm : M' = 0 := by have a := hr'.m; have b := HR.out.m; omega
      subst hp; subst hm
      have := h 3 (by decide) (by decide) (by decide)
      cases this
  obtain ⟨rfl, rfl⟩ := hc2
  have HB2 := Lib.hid (HB1.out.trans (hb2.mono HB1.out.size))
  clear hb2 hc
  go_wp2_with fail
  refine (good_any _ _ [0, 0] _ (by simp) (two0 _ _)).mono ?_
  rintro e w3 ⟨rfl, rfl⟩
  rw [show ([(0 : Int), 0].all (· == 0)) = true from rfl]
  go_wp2
  go_ret
  exact ⟨rfl, HB2.out.alloc HB2.out.size _⟩
theorem sent_same {g g' g2 : G} {P M : Nat} {n en : Int} {k : Nat} (hr : Right g P M) (hk : n = k) (k1 : 1 ≤ k) (k2 : k ≤ 15) (hg : g' = ⟨(sentP g P k : Nat), g.m, g.h⟩)
    (h : (en = 0 ∧ ∃ (k P M : Nat), n = k ∧ 1 ≤ k ∧ k ≤ 15 ∧ Right g' P M ∧ g2 = ⟨(sentP g' P k : Nat), g'.m, g'.h⟩) ∨ (en ≠ 0 ∧ g2 = zeroG ∧ ¬ (good g' ∧ 1 ≤ n ∧ n ≤ 15))) : en = 0 ∧ g2 = g' := by
  have hr2 : Right g' (sentP g P k) M := by rw [hg]; exact sent_right hr k1 k2
  rcases h with ⟨h0, k', P', M', hk', -, -, hr', rfl⟩ | ⟨-, -, h⟩
  · obtain rfl : k' = k := by omega
    have hp : P' = sentP g P k' := by have a := hr'.p; have b := hr2.p; omega
    subst hp
    refine ⟨h0, ?_⟩
    subst hg
    show (⟨_, g.m, g.h⟩ : G) = _
    rw [sent_twice]
  · exact absurd ⟨⟨_, _, hr2⟩, by omega, by omega⟩ h
set_option maxRecDepth 100000 in
set_option maxHeartbeats 1000000 in
theorem sigonce_any (g : G) (n : Int) (w : World) (hB : BB g) : Calls Try.prog 8 #[.agg (cellsA g), .int .i64 n] w fun e w' => e = .returned (.bool true) ∧ Below w.heap.size w w' := by
  have HB := Lib.hid hB
  have HR0 := Lib.hid (row_new w g)
  have HA := Lib.hid (Go.Joins.below_alloc1 w (.cells (cellsA g) 58))
  clear hB
  go_enter Try.func8, Try.ntmps8
  go_wp2_with fail
  refine (sigs_is _).mono ?_
  rintro e w1 ⟨rfl, hb1⟩
  have HR1 := Lib.hid (HR0.out.keep hb1)
  have HB1 := Lib.hid (HA.out.trans (hb1.mono HA.out.size))
  have hl := HR1.out.load
  clear hb1 HR0 HA
  go_wp2_with fail
  refine (send_is g n _ HB.out).mono ?_
  rintro e w2 ⟨en, g', rfl, hb2, hc⟩
  have HB2 := Lib.hid (HB1.out.trans (hb2.mono HB1.out.size))
  clear hb2 hl
  rcases hc with ⟨rfl, k, P, M, rfl, k1, k2, hr, hg⟩ | ⟨hen, rfl, -⟩
  · have HG := Lib.hid hg
    have HR := Lib.hid hr
    have hr2 : Right g' (sentP g P k) M := by rw [hg]; exact sent_right hr k1 k2
    have HR2 := Lib.hid hr2
    have HK := Lib.hid (And.intro k1 k2)
    clear hg hr hr2 k1 k2
    go_wp2_with fail
    refine (send_is g' k _ (bb_right HR2.out)).mono ?_
    rintro e w3 ⟨en2, g2, rfl, hb3, hc⟩
    obtain ⟨rfl, rfl⟩ := sent_same HR.out rfl HK.out.1 HK.out.2 HG.out hc
    have HX := Lib.hid ((row_new w2 g2).keep hb3 |>.alloc (.cells (cellsA g2) 58))
    have HB3 := Lib.hid (((HB2.out.alloc HB2.out.size (.cells (cellsA g2) 58)).trans (hb3.mono (by have := HB2.out.size; simp; omega))).alloc (by have := HB2.out.size; have := hb3.size; simp at this; omega) (.cells (cellsA g2) 58))
    have hl5 := HX.out.load
    clear hb3 hc
    go_wp2_with fail
    have hb5 : w.heap.size ≤ w2.heap.size := HB2.out.size
    clear hl5
    generalize w2.heap.size = b5 at *
    generalize w3.alloc (.cells (cellsA g2) 58) = w4 at *
    go_loopw [39] (fun iv wr => ∃ (i : Nat) (a : G) (P' : Nat), i ≤ 16 ∧ iv = .int .i64 i ∧ Hid (Below w.heap.size w wr) ∧ Hid (Row wr b5 a) ∧ Hid (Right a P' M) ∧ pop P' + i ≤ 15) (fun iv _ => 16 - (intOf iv).toNat)
    case atStart => exact ⟨0, g2, _, by omega, rfl, HB3, HX, HR2, by have := pop_lt _ HR2.out.p0; omega⟩
    case round =>
      obtain ⟨i, a, P', hi, rfl, HBW, HRW, HRA, hpop⟩ := hrel
      have hi15 : (i : Int) < 16 := by omega
      have hl := HRW.out.load
      go_wp2_with fail
      refine (take_is a P' M _ (bb_right HRA.out) HRA.out).mono ?_
      rintro e w5 ⟨hb5w, ⟨v, n', hw, rfl⟩ | ⟨k', k1, k2, hP, rfl⟩⟩
      · have HBX := Lib.hid (HBW.out.trans (hb5w.mono HBW.out.size))
        clear hb5w hl
        go_wp2
        go_ret
        exact ⟨rfl, HBX.out.alloc HBX.out.size _⟩
      · obtain ⟨c, hc⟩ : ∃ c : G, c = ⟨((less P' (1 <<< k') : Nat) : Int), a.m, a.h⟩ := ⟨_, rfl⟩
        rw [← hc]
        have HRC : Hid (Right c (less P' (1 <<< k')) M) := Lib.hid (by rw [hc]; exact taken_right HRA.out)
        have HPOP := Lib.hid (pop_less P' k' (by omega) hP)
        have HBX := Lib.hid ((HBW.out.trans (hb5w.mono HBW.out.size)).alloc (by have := HBW.out.size; have := hb5w.size; omega) (.cells (cellsA c) 58))
        have HR5 := Lib.hid ((HRW.out.keep hb5w).alloc (.cells (cellsA c) 58))
        have HR9 := Lib.hid (row_new w5 c)
        have hne : w5.heap.size ≠ b5 := by have := HRW.out.lt; have := hb5w.size; omega
        have p0 := HR9.out.c0
        have q0 := HR5.out.c0
        have qk := HR5.out.ch (k := k') (by omega)
        rw [HRC.out.p] at p0
        rw [HRA.out.p] at q0
        have hbit : (bits .and .i64 (((less P' (1 <<< k') : Nat) : Int) / 2 ^ k') 1 == 1) = false := by
          rw [bit_eq _ k' (less_lt _ _ HRA.out.pl)]; exact less_gone _ _
        have hor : bits .or .i64 ((less P' (1 <<< k') : Nat) : Int) (wrap64 (2 ^ k')) = (P' : Int) := by
          rw [wrap_pow k2, shl_is (less_lt _ _ HRA.out.pl) k2, less_or _ _ hP]
        have d1 : decide ((k' : Int) < 1) = false := by simp; omega
        have d2 : decide ((15 : Int) < (k' : Int)) = false := by simp; omega
        have n1 : ¬ ((k' : Int) < 1) := by omega
        have n2 : ¬ ((15 : Int) < (k' : Int)) := by omega
        have k16 : (k' : Int) < 16 := by omega
        have k0 : 0 ≤ (k' : Int) := by omega
        generalize a.h k' = x at *
        generalize less P' (1 <<< k') = L at *
        clear hb5w hl hc k1 k2 hP
        go_wp2_with fail
        go_quiet (fail)
        generalize w5.heap.size = b9 at *
        generalize w5.alloc (.cells (cellsA c) 58) = w6 at *
        clear p0 q0 qk
        have hl9 := fun m => (HR9.out.keep (below_drewN (Below.refl _ _) m)).load
        have hs5 := fun m => (HR5.out.keep (below_drewN (Below.refl _ _) m)).store c
        have HE5 := Lib.hid (fun m => (HR5.out.keep (below_drewN (Below.refl w6.heap.size _) m)).setRow c)
        have HEB := Lib.hid (fun m => below_setRow (below_drewN HBX.out m) hb5 (cellsA c))
        go_wp2
        go_roundw
        case rel => exact ⟨i + 1, c, L, by omega, by go_num, HEB.out _, HE5.out _, HRC, by have := HPOP.out; omega⟩
        case measure => simp [intOf]; omega
  · have hen' := ne_zero hen
    clear hen
    go_wp2
    go_ret
    exact ⟨rfl, HB2.out.alloc HB2.out.size _⟩
end Go.Proofs.Ytgdihccmkleimaa.SigLaw
