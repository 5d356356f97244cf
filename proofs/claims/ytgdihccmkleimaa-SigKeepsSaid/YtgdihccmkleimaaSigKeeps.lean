/- The law ringkeep5.SigKeeps of its Go body: a blocked signal is not delivered and is still pending when it is unblocked; SigKill always comes first. -/
import Derived.Test.YtgdihccmkleimaaSigOnce
namespace Go.Proofs.Ytgdihccmkleimaa.SigLaw
open Go.RowKit
set_option linter.unusedVariables false
attribute [local go_sem ↓] load58_eq store58_eq zero58 cells58 neq58 eql58
attribute [local go_sem] store_new load_new
theorem hold_ok {g g' : G} {m P M : Nat} {en : Int} (hr : Right g P M) (hm : m < 65536) (hm0 : m.testBit 0 = false) (h : (en = 0 ∧ good g ∧ g' = ⟨g.p, (less m 512 : Nat), g.h⟩) ∨ (en ≠ 0 ∧ ¬ good g)) : en = 0 ∧ Right g' P (less m 512) := by
  rcases h with ⟨h0, -, rfl⟩ | ⟨-, h⟩
  · exact ⟨h0, held_right hr hm hm0⟩
  · exact absurd ⟨P, M, hr⟩ h
theorem send9_ok {g g' : G} {P M : Nat} {en : Int} (hr : Right g P M) (h : (en = 0 ∧ ∃ (k P M : Nat), (9 : Int) = k ∧ 1 ≤ k ∧ k ≤ 15 ∧ Right g P M ∧ g' = ⟨(sentP g P k : Nat), g.m, g.h⟩) ∨ (en ≠ 0 ∧ g' = zeroG ∧ ¬ (good g ∧ 1 ≤ (9 : Int) ∧ (9 : Int) ≤ 15))) : en = 0 ∧ ∃ P', Right g' P' M ∧ P'.testBit 9 = true := by
  rcases h with ⟨h0, k, P', M', hk, -, -, hr', rfl⟩ | ⟨-, -, h⟩
  · obtain rfl : k = 9 := by omega
    have hm : M' = M := by have a := hr'.m; have b := hr.m; omega
    subst hm
    refine ⟨h0, _, sent_right hr' (by decide) (by decide), ?_⟩
    have hd : ¬ deaf g 9 := by
      rintro (h | ⟨h, -⟩)
      · have := hr.h9; omega
      · exact absurd h (by decide)
    rw [sentP_neg hd]
    exact or_bit_same _ _
  · exact absurd ⟨⟨P, M, hr⟩, by decide, by decide⟩ h
theorem even_bit (r : Nat) : (2 * r).testBit 0 = false := by simp
theorem three0 (w0 : World) (T : TypeId) : ∀ i, i < [(0 : Int), 0, 0].length → (w0.alloc (.cells #[.int .i64 0, .int .i64 0, .int .i64 0] T)).cell? ⟨w0.heap.size, i, none⟩ = some (.int .i64 ([(0 : Int), 0, 0].getD i 0)) := by
  intro i hi
  rw [cell_of_row _ _ _ _ _ _ (heap_alloc_new _ _)]
  have : i = 0 ∨ i = 1 ∨ i = 2 := by simp at hi; omega
  rcases this with rfl | rfl | rfl <;> rfl
set_option maxRecDepth 100000 in
set_option maxHeartbeats 1000000 in
theorem sigkeeps_any (g : G) (mask n : Int) (w : World) (hB : BB g) : Calls Try.prog 9 #[.agg (cellsA g), .int .i64 mask, .int .i64 n] w fun e w' => e = .returned (.bool true) ∧ Below w.heap.size w w' := by
  have HB := Lib.hid hB
  have HR0 := Lib.hid (row_new w g)
  have HA := Lib.hid (Go.Joins.below_alloc1 w (.cells (cellsA g) 58))
  obtain ⟨k, hk⟩ : ∃ k : Nat, (k : Int) = 1 + n % 15 := ⟨(1 + n % 15).toNat, by omega⟩
  obtain ⟨m, hm⟩ : ∃ m : Nat, (m : Int) = mask % 32768 * 2 := ⟨(mask % 32768 * 2).toNat, by omega⟩
  have HK := Lib.hid (show 1 ≤ k ∧ k ≤ 15 by omega)
  have HM := Lib.hid (show m < 65536 ∧ m.testBit 0 = false by
    refine ⟨by omega, ?_⟩
    obtain ⟨r, rfl⟩ : ∃ r, m = 2 * r := ⟨m / 2, by omega⟩
    exact even_bit r)
  have HKE := Lib.hid hk
  have HME := Lib.hid hm
  have hki : (k : Int) ≤ 15 := by omega
  clear hB hk hm
  go_enter Try.func9, Try.ntmps9
  go_wp2_with fail
  refine (sigs_is _).mono ?_
  rintro e w1 ⟨rfl, hb1⟩
  have HR1 := Lib.hid (HR0.out.keep hb1)
  have HB1 := Lib.hid (HA.out.trans (hb1.mono HA.out.size))
  have hl := HR1.out.load
  clear hb1 HR0 HA
  go_wp2_with fail
  refine (within_any _ 15 _ (by decide) (by decide)).mono ?_
  rintro e w2 ⟨rfl, rfl⟩
  go_wp2_with fail
  refine (within_any _ 32768 _ (by decide) (by decide)).mono ?_
  rintro e w2 ⟨rfl, rfl⟩
  have hm2 : 0 ≤ mask % 32768 := by omega
  have hm3 : mask % 32768 < 32768 := by omega
  have hn2 : 0 ≤ n % 15 := by omega
  have hn3 : n % 15 < 15 := by omega
  go_wp2_with fail
  rw [← HKE.out, ← HME.out]
  clear hm2 hm3 hn2 hn3
  refine (send_is g k _ HB.out).mono ?_
  rintro e w2 ⟨en, a, rfl, hb2, hc⟩
  have HB2 := Lib.hid ((HB1.out.trans (hb2.mono HB1.out.size)).alloc (by have := HB1.out.size; have := hb2.size; omega) (.cells (cellsA a) 58))
  have HG2 := Lib.hid ((HR1.out.keep hb2).alloc (.cells (cellsA a) 58))
  have HA2 := Lib.hid (row_new w2 a)
  clear hb2 hl
  rcases hc with ⟨rfl, k', P, M, hk', k1, k2, hr, hg⟩ | ⟨hen, rfl, hng⟩
  · have HR : Hid (Right a (sentP g P k') M) := Lib.hid (by rw [hg]; exact sent_right hr k1 k2)
    clear hg hr hk' k1 k2
    generalize sentP g P k' = P at *
    have hl7 := HA2.out.load
    go_wp2_with fail
    generalize w2.heap.size = b7 at *
    generalize w2.alloc (.cells (cellsA a) 58) = w3 at *
    clear hl7
    refine (hold_is a m _ (bb_right HR.out) HM.out.1 HM.out.2).mono ?_
    rintro e w4 ⟨en, b, rfl, hb4, hc⟩
    obtain ⟨rfl, hrb⟩ := hold_ok HR.out HM.out.1 HM.out.2 hc
    have HRB := Lib.hid hrb
    have HB4 := Lib.hid ((HB2.out.trans (hb4.mono HB2.out.size)).alloc (by have := HB2.out.size; have := hb4.size; omega) (.cells (cellsA b) 58))
    have HA4 := Lib.hid ((HA2.out.keep hb4).alloc (.cells (cellsA b) 58))
    have HC4 := Lib.hid (row_new w4 b)
    clear hb4 hc hrb
    have hl9 := HC4.out.load
    go_wp2_with fail
    generalize w4.heap.size = b9 at *
    generalize w4.alloc (.cells (cellsA b) 58) = w5 at *
    clear hl9
    refine (next_is b _ (bb_right HRB.out)).mono ?_
    rintro e w6 ⟨kk, en, rfl, hb6, hc⟩
    have HB6 := Lib.hid (HB4.out.trans (hb6.mono HB4.out.size))
    have HA6 := Lib.hid (HA4.out.keep hb6)
    have HC6 := Lib.hid (HC4.out.keep hb6)
    have hl9 := HC6.out.load
    clear hb6
    have hnx : en = 4 ∨ (en = 0 ∧ ∃ k : Nat, kk = k ∧ 1 ≤ k ∧ k ≤ 15 ∧ (k = 9 ∨ (k ≠ 9 ∧ m.testBit k = false))) := by
      rcases hc with ⟨_, h⟩ | ⟨P', M', hr', ⟨h0, k, hk, k1, k2, hP, h9, -⟩ | ⟨h4, -⟩⟩
      · exact absurd ⟨_, _, HRB.out⟩ h
      · have hm : M' = less m 512 := by have a := hr'.m; have b := HRB.out.m; omega
        subst hm
        refine .inr ⟨h0, k, hk, k1, k2, ?_⟩
        by_cases e9 : k = 9
        · exact .inl e9
        · rcases h9 with h9 | h9
          · exact .inl h9
          · refine .inr ⟨e9, ?_⟩
            rw [less_bit] at h9
            have hex : ∀ k : Fin 16, k.val ≠ 9 → (512 : Nat).testBit k.val = false := by decide
            have e5 : (512 : Nat).testBit k = false := hex ⟨k, by omega⟩ e9
            rw [e5] at h9
            simpa using h9
      · exact .inl h4
    clear hc
    rcases hnx with rfl | ⟨rfl, k, rfl, k1, k2, h9⟩
    · go_wp2_with fail
      refine (hold_is b 0 _ (bb_right HRB.out) (by decide) (by decide)).mono ?_
      rintro e w7 ⟨en, c, rfl, hb7, hc⟩
      obtain ⟨rfl, hrc⟩ := hold_ok HRB.out (by decide) (by decide) hc
      have HRC := Lib.hid hrc
      have HB7 := Lib.hid ((HB6.out.trans (hb7.mono HB6.out.size)).alloc (by have := HB6.out.size; have := hb7.size; omega) (.cells (cellsA c) 58))
      have HA7 := Lib.hid ((HA6.out.keep hb7).alloc (.cells (cellsA c) 58))
      have HC7 := Lib.hid ((HC6.out.keep hb7).alloc (.cells (cellsA c) 58))
      have HD7 := Lib.hid (row_new w7 c)
      clear hb7 hc hrc hl9
      have hl9 := HC7.out.load
      go_wp2_with fail
      generalize w7.heap.size = b13 at *
      generalize w7.alloc (.cells (cellsA c) 58) = w8 at *
      refine (send_is b 9 _ (bb_right HRB.out)).mono ?_
      rintro e w9 ⟨en, d, rfl, hb9, hc⟩
      obtain ⟨rfl, P9, hrd, h99⟩ := send9_ok HRB.out hc
      have HRD := Lib.hid (And.intro hrd h99)
      have HB9 := Lib.hid ((HB7.out.trans (hb9.mono HB7.out.size)).alloc (by have := HB7.out.size; have := hb9.size; omega) (.cells (cellsA d) 58))
      have HA9 := Lib.hid ((HA7.out.keep hb9).alloc (.cells (cellsA d) 58))
      have HD9 := Lib.hid ((HD7.out.keep hb9).alloc (.cells (cellsA d) 58))
      have hl15 := (row_new w9 d).load
      clear hb9 hc hrd h99 hl9
      go_wp2_with fail
      clear hl15
      generalize w9.heap.size = b15 at *
      generalize w9.alloc (.cells (cellsA d) 58) = w10 at *
      refine (next_is d _ (bb_right HRD.out.1)).mono ?_
      rintro e w11 ⟨x, en, rfl, hb11, hc⟩
      have hx : en = 0 ∧ x = 9 := by
        rcases hc with ⟨_, h⟩ | ⟨P', M', hr', ⟨h0, k, hk, k1, k2, hP, -, h9⟩ | ⟨h4, h9, -⟩⟩
        · exact absurd ⟨_, _, HRD.out.1⟩ h
        · have hp : P' = P9 := by have a := hr'.p; have b := HRD.out.1.p; omega
          subst hp
          exact ⟨h0, by have := h9 HRD.out.2; omega⟩
        · have hp : P' = P9 := by have a := hr'.p; have b := HRD.out.1.p; omega
          subst hp
          rw [HRD.out.2] at h9; cases h9
      obtain ⟨rfl, rfl⟩ := hx
      have HBX := Lib.hid (HB9.out.trans (hb11.mono HB9.out.size))
      have c13 := ((HD9.out.keep hb11).alloc (.cells #[.int .i64 0, .int .i64 0, .int .i64 0] 23)).c0
      have c7 := ((HA9.out.keep hb11).alloc (.cells #[.int .i64 0, .int .i64 0, .int .i64 0] 23)).c0
      rw [HRC.out.p] at c13
      rw [HR.out.p] at c7
      clear hb11 hc
      go_wp2_with fail
      refine (good_any _ _ [0, 0, 0] _ (by simp) (three0 _ _)).mono ?_
      rintro e w12 ⟨rfl, rfl⟩
      rw [show ([(0 : Int), 0, 0].all (· == 0)) = true from rfl]
      go_wp2
      go_ret
      exact ⟨rfl, HBX.out.alloc HBX.out.size _⟩
    · have d1 : decide ((k : Int) < 1) = false := by simp; omega
      have d2 : decide ((15 : Int) < (k : Int)) = false := by simp; omega
      have n1 : ¬ ((k : Int) < 1) := by omega
      have n2 : ¬ ((15 : Int) < (k : Int)) := by omega
      have k64 : (k : Int) < 64 := by omega
      have hbit := bit_eq m k HM.out.1
      clear k1 k2
      rcases h9 with rfl | ⟨h9, hm9⟩
      · have d3 : ((9 : Int) != 9) = false := by decide
        simp only [show ((9 : Nat) : Int) = 9 from rfl] at *
        rw [show (2 : Int) ^ 9 = 512 from by decide] at hbit
        cases hq : m.testBit 9
        · rw [hq] at hbit
          go_wp2_with fail
          refine (hold_is b 0 _ (bb_right HRB.out) (by decide) (by decide)).mono ?_
          rintro e w7 ⟨en, c, rfl, hb7, hc⟩
          obtain ⟨rfl, hrc⟩ := hold_ok HRB.out (by decide) (by decide) hc
          have HRC := Lib.hid hrc
          have HB7 := Lib.hid ((HB6.out.trans (hb7.mono HB6.out.size)).alloc (by have := HB6.out.size; have := hb7.size; omega) (.cells (cellsA c) 58))
          have HA7 := Lib.hid ((HA6.out.keep hb7).alloc (.cells (cellsA c) 58))
          have HC7 := Lib.hid ((HC6.out.keep hb7).alloc (.cells (cellsA c) 58))
          have HD7 := Lib.hid (row_new w7 c)
          clear hb7 hc hrc hl9
          have hl9 := HC7.out.load
          go_wp2_with fail
          generalize w7.heap.size = b13 at *
          generalize w7.alloc (.cells (cellsA c) 58) = w8 at *
          refine (send_is b 9 _ (bb_right HRB.out)).mono ?_
          rintro e w9 ⟨en, d, rfl, hb9, hc⟩
          obtain ⟨rfl, P9, hrd, h99⟩ := send9_ok HRB.out hc
          have HRD := Lib.hid (And.intro hrd h99)
          have HB9 := Lib.hid ((HB7.out.trans (hb9.mono HB7.out.size)).alloc (by have := HB7.out.size; have := hb9.size; omega) (.cells (cellsA d) 58))
          have HA9 := Lib.hid ((HA7.out.keep hb9).alloc (.cells (cellsA d) 58))
          have HD9 := Lib.hid ((HD7.out.keep hb9).alloc (.cells (cellsA d) 58))
          have hl15 := (row_new w9 d).load
          clear hb9 hc hrd h99 hl9
          go_wp2_with fail
          clear hl15
          generalize w9.heap.size = b15 at *
          generalize w9.alloc (.cells (cellsA d) 58) = w10 at *
          refine (next_is d _ (bb_right HRD.out.1)).mono ?_
          rintro e w11 ⟨x, en, rfl, hb11, hc⟩
          have hx : en = 0 ∧ x = 9 := by
            rcases hc with ⟨_, h⟩ | ⟨P', M', hr', ⟨h0, k, hk, k1, k2, hP, -, h9⟩ | ⟨h4, h9, -⟩⟩
            · exact absurd ⟨_, _, HRD.out.1⟩ h
            · have hp : P' = P9 := by have a := hr'.p; have b := HRD.out.1.p; omega
              subst hp
              exact ⟨h0, by have := h9 HRD.out.2; omega⟩
            · have hp : P' = P9 := by have a := hr'.p; have b := HRD.out.1.p; omega
              subst hp
              rw [HRD.out.2] at h9; cases h9
          obtain ⟨rfl, rfl⟩ := hx
          have HBX := Lib.hid (HB9.out.trans (hb11.mono HB9.out.size))
          have c13 := ((HD9.out.keep hb11).alloc (.cells #[.int .i64 0, .int .i64 0, .int .i64 0] 23)).c0
          have c7 := ((HA9.out.keep hb11).alloc (.cells #[.int .i64 0, .int .i64 0, .int .i64 0] 23)).c0
          rw [HRC.out.p] at c13
          rw [HR.out.p] at c7
          clear hb11 hc
          go_wp2_with fail
          refine (good_any _ _ [0, 0, 0] _ (by simp) (three0 _ _)).mono ?_
          rintro e w12 ⟨rfl, rfl⟩
          rw [show ([(0 : Int), 0, 0].all (· == 0)) = true from rfl]
          go_wp2
          go_ret
          exact ⟨rfl, HBX.out.alloc HBX.out.size _⟩
        · rw [hq] at hbit
          go_wp2_with fail
          refine (hold_is b 0 _ (bb_right HRB.out) (by decide) (by decide)).mono ?_
          rintro e w7 ⟨en, c, rfl, hb7, hc⟩
          obtain ⟨rfl, hrc⟩ := hold_ok HRB.out (by decide) (by decide) hc
          have HRC := Lib.hid hrc
          have HB7 := Lib.hid ((HB6.out.trans (hb7.mono HB6.out.size)).alloc (by have := HB6.out.size; have := hb7.size; omega) (.cells (cellsA c) 58))
          have HA7 := Lib.hid ((HA6.out.keep hb7).alloc (.cells (cellsA c) 58))
          have HC7 := Lib.hid ((HC6.out.keep hb7).alloc (.cells (cellsA c) 58))
          have HD7 := Lib.hid (row_new w7 c)
          clear hb7 hc hrc hl9
          have hl9 := HC7.out.load
          go_wp2_with fail
          generalize w7.heap.size = b13 at *
          generalize w7.alloc (.cells (cellsA c) 58) = w8 at *
          refine (send_is b 9 _ (bb_right HRB.out)).mono ?_
          rintro e w9 ⟨en, d, rfl, hb9, hc⟩
          obtain ⟨rfl, P9, hrd, h99⟩ := send9_ok HRB.out hc
          have HRD := Lib.hid (And.intro hrd h99)
          have HB9 := Lib.hid ((HB7.out.trans (hb9.mono HB7.out.size)).alloc (by have := HB7.out.size; have := hb9.size; omega) (.cells (cellsA d) 58))
          have HA9 := Lib.hid ((HA7.out.keep hb9).alloc (.cells (cellsA d) 58))
          have HD9 := Lib.hid ((HD7.out.keep hb9).alloc (.cells (cellsA d) 58))
          have hl15 := (row_new w9 d).load
          clear hb9 hc hrd h99 hl9
          go_wp2_with fail
          clear hl15
          generalize w9.heap.size = b15 at *
          generalize w9.alloc (.cells (cellsA d) 58) = w10 at *
          refine (next_is d _ (bb_right HRD.out.1)).mono ?_
          rintro e w11 ⟨x, en, rfl, hb11, hc⟩
          have hx : en = 0 ∧ x = 9 := by
            rcases hc with ⟨_, h⟩ | ⟨P', M', hr', ⟨h0, k, hk, k1, k2, hP, -, h9⟩ | ⟨h4, h9, -⟩⟩
            · exact absurd ⟨_, _, HRD.out.1⟩ h
            · have hp : P' = P9 := by have a := hr'.p; have b := HRD.out.1.p; omega
              subst hp
              exact ⟨h0, by have := h9 HRD.out.2; omega⟩
            · have hp : P' = P9 := by have a := hr'.p; have b := HRD.out.1.p; omega
              subst hp
              rw [HRD.out.2] at h9; cases h9
          obtain ⟨rfl, rfl⟩ := hx
          have HBX := Lib.hid (HB9.out.trans (hb11.mono HB9.out.size))
          have c13 := ((HD9.out.keep hb11).alloc (.cells #[.int .i64 0, .int .i64 0, .int .i64 0] 23)).c0
          have c7 := ((HA9.out.keep hb11).alloc (.cells #[.int .i64 0, .int .i64 0, .int .i64 0] 23)).c0
          rw [HRC.out.p] at c13
          rw [HR.out.p] at c7
          clear hb11 hc
          go_wp2_with fail
          refine (good_any _ _ [0, 0, 0] _ (by simp) (three0 _ _)).mono ?_
          rintro e w12 ⟨rfl, rfl⟩
          rw [show ([(0 : Int), 0, 0].all (· == 0)) = true from rfl]
          go_wp2
          go_ret
          exact ⟨rfl, HBX.out.alloc HBX.out.size _⟩
      · rw [hm9] at hbit
        go_wp2_with fail
        refine (hold_is b 0 _ (bb_right HRB.out) (by decide) (by decide)).mono ?_
        rintro e w7 ⟨en, c, rfl, hb7, hc⟩
        obtain ⟨rfl, hrc⟩ := hold_ok HRB.out (by decide) (by decide) hc
        have HRC := Lib.hid hrc
        have HB7 := Lib.hid ((HB6.out.trans (hb7.mono HB6.out.size)).alloc (by have := HB6.out.size; have := hb7.size; omega) (.cells (cellsA c) 58))
        have HA7 := Lib.hid ((HA6.out.keep hb7).alloc (.cells (cellsA c) 58))
        have HC7 := Lib.hid ((HC6.out.keep hb7).alloc (.cells (cellsA c) 58))
        have HD7 := Lib.hid (row_new w7 c)
        clear hb7 hc hrc hl9
        have hl9 := HC7.out.load
        go_wp2_with fail
        generalize w7.heap.size = b13 at *
        generalize w7.alloc (.cells (cellsA c) 58) = w8 at *
        refine (send_is b 9 _ (bb_right HRB.out)).mono ?_
        rintro e w9 ⟨en, d, rfl, hb9, hc⟩
        obtain ⟨rfl, P9, hrd, h99⟩ := send9_ok HRB.out hc
        have HRD := Lib.hid (And.intro hrd h99)
        have HB9 := Lib.hid ((HB7.out.trans (hb9.mono HB7.out.size)).alloc (by have := HB7.out.size; have := hb9.size; omega) (.cells (cellsA d) 58))
        have HA9 := Lib.hid ((HA7.out.keep hb9).alloc (.cells (cellsA d) 58))
        have HD9 := Lib.hid ((HD7.out.keep hb9).alloc (.cells (cellsA d) 58))
        have hl15 := (row_new w9 d).load
        clear hb9 hc hrd h99 hl9
        go_wp2_with fail
        clear hl15
        generalize w9.heap.size = b15 at *
        generalize w9.alloc (.cells (cellsA d) 58) = w10 at *
        refine (next_is d _ (bb_right HRD.out.1)).mono ?_
        rintro e w11 ⟨x, en, rfl, hb11, hc⟩
        have hx : en = 0 ∧ x = 9 := by
          rcases hc with ⟨_, h⟩ | ⟨P', M', hr', ⟨h0, k, hk, k1, k2, hP, -, h9⟩ | ⟨h4, h9, -⟩⟩
          · exact absurd ⟨_, _, HRD.out.1⟩ h
          · have hp : P' = P9 := by have a := hr'.p; have b := HRD.out.1.p; omega
            subst hp
            exact ⟨h0, by have := h9 HRD.out.2; omega⟩
          · have hp : P' = P9 := by have a := hr'.p; have b := HRD.out.1.p; omega
            subst hp
            rw [HRD.out.2] at h9; cases h9
        obtain ⟨rfl, rfl⟩ := hx
        have HBX := Lib.hid (HB9.out.trans (hb11.mono HB9.out.size))
        have c13 := ((HD9.out.keep hb11).alloc (.cells #[.int .i64 0, .int .i64 0, .int .i64 0] 23)).c0
        have c7 := ((HA9.out.keep hb11).alloc (.cells #[.int .i64 0, .int .i64 0, .int .i64 0] 23)).c0
        rw [HRC.out.p] at c13
        rw [HR.out.p] at c7
        clear hb11 hc
        go_wp2_with fail
        refine (good_any _ _ [0, 0, 0] _ (by simp) (three0 _ _)).mono ?_
        rintro e w12 ⟨rfl, rfl⟩
        rw [show ([(0 : Int), 0, 0].all (· == 0)) = true from rfl]
        go_wp2
        go_ret
        exact ⟨rfl, HBX.out.alloc HBX.out.size _⟩
  · have HNG : Hid (¬ good g) := Lib.hid (fun h => hng ⟨h, by have := HK.out; omega, by have := HK.out; omega⟩)
    have hen' := ne_zero hen
    have hl3 := HG2.out.load
    clear hen hng
    go_wp2_with fail
    refine (check_b g _ HB.out).mono ?_
    rintro e w3 ⟨en2, rfl, hb3, hc⟩
    have hen2 : (en2 != 0) = true := by
      rcases hc with ⟨_, h⟩ | ⟨h, _⟩
      · exact absurd h HNG.out
      · exact ne_zero h
    have HB3 := Lib.hid (HB2.out.trans (hb3.mono HB2.out.size))
    clear hb3 hc hl3
    go_wp2
    go_ret
    exact ⟨rfl, HB3.out⟩
end Go.Proofs.Ytgdihccmkleimaa.SigLaw
