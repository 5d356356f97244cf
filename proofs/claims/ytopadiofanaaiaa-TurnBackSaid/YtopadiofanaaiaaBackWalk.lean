/- The walks of turn.Of, slices.Compare, cmp.Compare. -/
import Derived.Test.YtopadiofanaaiaaBackPlain
import Derived.Test.YtopadiofanaaiaaAddHold
namespace Go.Proofs.Ytopadiofanaaiaa.TurnLaw
open Go.RowKit
set_option linter.unusedVariables false

section
variable {w : World} {B g m cap : Nat} {l : List Nat}
theorem row_set (h : NatRow w B (.slice (some ⟨g, 0, none⟩) m cap) l) (hm : l.length = m) (i x : Nat) : NatRow (w.setCell ⟨g, i, none⟩ (.int .i64 x)) B (.slice (some ⟨g, 0, none⟩) m cap) (l.set i x) := by
  subst hm
  have hst := (h.stored i (natV x)).1
  rw [show (l.map natV).set i (natV x) = (l.set i x).map natV from by rw [List.map_set]] at hst
  unfold NatRow
  rw [List.length_set]
  exact hst
theorem row_cell (h : NatRow w B (.slice (some ⟨g, 0, none⟩) m cap) l) (hm : l.length = m) {i : Nat} (hi : i < m) : w.cell? ⟨g, i, none⟩ = some (.int .i64 (l.getD i 0 : Nat)) := by
  subst hm
  have := h.cellAt i (by omega)
  rw [List.getElem?_map, List.getElem?_eq_getElem hi] at this
  simpa [List.getD, hi, natV] using this
theorem row_frozen (h : NatRow w B (.slice (some ⟨g, 0, none⟩) m cap) l) (hm : l.length = m) (i : Nat) : w.frozen? ⟨g, i, none⟩ = false := by
  subst hm
  exact h.frozenAt i
end
theorem mk4 (w : World) : (Instr.makeSlice 22 (.int .i64 4) (.int .i64 4)).run Try.prog w = .ok (.slice (some ⟨w.heap.size, 0, none⟩) 4 4) (w.alloc (.cells (madeCells #[.int .i64 0] 4) 3)) := make3 w 4 (Nat.le_refl _)
theorem cnt4_len (o : List Nat) : (cnt4 o).length = 4 := rfl
set_option maxRecDepth 100000 in
set_option maxHeartbeats 1000000 in
theorem of_is {w : World} {v : Value} {o : List Nat} (h12 : o.length ≤ 12) (h4 : ∀ x ∈ o, x < 4) (hbd : ofR (cnt4 o) o ≤ 8916100448256) (hm : NatS w v o) : Calls Try.prog 23 #[v] w fun e w' => e = .returned (.tuple #[.int .i64 (ofR (cnt4 o) o : Nat), .int .i64 0]) ∧ Below w.heap.size w w' := by
  obtain ⟨a, cap, rfl, hl, hcap, hm⟩ := hm
  obtain ⟨n, hn⟩ : ∃ n, n = o.length := ⟨_, rfl⟩
  rw [← hn] at hl h12 ⊢
  obtain ⟨T, hT⟩ : ∃ T, T = ofR (cnt4 o) o := ⟨_, rfl⟩
  rw [← hT] at hbd ⊢
  have HN := Lib.hid hn
  have HM := Lib.hid hm
  have HTE := Lib.hid hT
  have HL4 := Lib.hid (fun k (hk : k < o.length) => h4 (o.getD k 0) (by simp [List.getD, hk]))
  have hni : (n : Int) ≤ 12 := by omega
  have hTi : (T : Int) ≤ 8916100448256 := by omega
  have HTB := Lib.hid hbd
  have hmk := mk4
  have HR0 := Lib.hid (made3_row (B := w.heap.size) w 4 (Nat.le_refl _) (Nat.le_refl _))
  have HB0 := Lib.hid (Go.Joins.below_alloc1 w (.cells (madeCells #[.int .i64 0] 4) 3))
  generalize hcd : madeCells #[.int .i64 0] 4 = C2 at *
  clear hn hm hT h4 hbd hcd
  go_enter Try.func23, Try.ntmps23
  go_wp2_with fail
  go_loopw [17] (fun iv wr => ∃ k, k ≤ n ∧ iv = .int .i64 k ∧ Hid (Below w.heap.size w wr) ∧ Hid (NatRow wr w.heap.size (.slice (some ⟨w.heap.size, 0, none⟩) 4 4) (cnt4 (o.take k)))) (fun iv _ => n - (intOf iv).toNat)
  case atStart => exact ⟨0, Nat.zero_le _, rfl, HB0.out, HR0.out⟩
  case round =>
    obtain ⟨k, hk, rfl, HBL, HRW⟩ := hrel
    by_cases hkn : k < n
    · have hko : k < o.length := by rw [← HN.out]; exact hkn
      rcases HM.out with h0 | ⟨b, off, rfl, hb, hc⟩
      · rw [h0] at hko; simp at hko
      have g := (HBL.out.cell (p := ⟨b, off + k, none⟩) hb).trans (hc k hko)
      have hw4 := HL4.out k hko
      have htk := cnt4_take hko hw4
      obtain ⟨who, hwho⟩ : ∃ x, x = o.getD k 0 := ⟨_, rfl⟩
      rw [← hwho] at g hw4 htk
      have hcell := row_cell HRW.out (cnt4_len _) hw4
      have hfr := row_frozen HRW.out (cnt4_len _) who
      have hle : (cnt4 (o.take k)).getD who 0 ≤ 12 := by
        have h1 := getD_le (l := cnt4 (o.take k)) (i := who) hw4
        have h2 := cnt4_sum (o.take k)
        have h3 : (o.take k).length ≤ 12 := by rw [List.length_take]; have := HN.out; omega
        omega
      have hst := row_set HRW.out (cnt4_len _) who ((cnt4 (o.take k)).getD who 0 + 1)
      obtain ⟨c, hce⟩ : ∃ x, x = (cnt4 (o.take k)).getD who 0 := ⟨_, rfl⟩
      rw [← hce] at hcell hle hst htk
      rw [← htk] at hst
      have HST := Lib.hid hst
      have HB2 := Lib.hid (Below.setCell HBL.out (Nat.le_refl _) (.int .i64 ((c + 1 : Nat) : Int)) (p := ⟨w.heap.size, who, none⟩))
      have hwi : (who : Int) < 4 := by omega
      have hci : (c : Int) ≤ 12 := by omega
      unfold natV at g
      clear hc hst htk hce hwho hle hw4
      go_wp2
      go_roundw
      case rel => exact ⟨k + 1, by omega, by go_num, HB2.out, HST.out⟩
      case measure => simp [intOf]; omega
    · obtain rfl : k = n := by omega
      have HR1 : Hid (NatRow wr w.heap.size (.slice (some ⟨w.heap.size, 0, none⟩) 4 4) (cnt4 (o.drop 0))) := by
        have := HRW.out
        rw [HN.out, List.take_length] at this
        exact this
      have HBL1 := Lib.hid HBL.out
      clear HRW
      go_wp2_with fail
      go_loopw [7, 36] (fun kv iv wr => ∃ j acc, j ≤ k ∧ iv = .int .i64 j ∧ kv = .int .i64 (acc : Nat) ∧ Hid (Below w.heap.size w wr) ∧ Hid (NatRow wr w.heap.size (.slice (some ⟨w.heap.size, 0, none⟩) 4 4) (cnt4 (o.drop j))) ∧ Hid (acc + ofR (cnt4 (o.drop j)) (o.drop j) = T)) (fun _ iv _ => k - (intOf iv).toNat)
      case atStart => exact ⟨0, 0, Nat.zero_le _, rfl, rfl, HBL.out, HR1.out, by show 0 + _ = _; rw [List.drop_zero, Nat.zero_add]; exact HTE.out.symm⟩
      case round =>
        clear HBL HR1 HBL1
        obtain ⟨j, acc, hj, rfl, rfl, HBL, HRW, HTA⟩ := hrel
        by_cases hjk : j < k
        · have hjo : j < o.length := by rw [← HN.out]; exact hjk
          rcases HM.out with h0 | ⟨b, off, rfl, hb, hc⟩
          · rw [h0] at hjo; simp at hjo
          have g := (HBL.out.cell (p := ⟨b, off + j, none⟩) hb).trans (hc j hjo)
          have hw4 := HL4.out j hjo
          have hdr := cnt4_drop hjo hw4
          have hps := cnt4_pos hjo hw4
          have hof := ofR_drop (cnt4 (o.drop j)) hjo
          have hta := HTA.out
          rw [hof] at hta
          obtain ⟨who, hwho⟩ : ∃ x, x = o.getD j 0 := ⟨_, rfl⟩
          rw [← hwho] at g hw4 hdr hps hta
          rw [← hdr] at hta
          have hsm : (cnt4 (o.drop j)).sum ≤ 12 := by
            have h2 := cnt4_sum (o.drop j)
            rw [List.length_drop] at h2
            have := HN.out
            omega
          obtain ⟨L, hL⟩ : ∃ L, L = cnt4 (o.drop j) := ⟨_, rfl⟩
          have hl4 : L.length = 4 := by rw [hL]; rfl
          rw [← hL] at hdr hps hta hsm HRW
          have HDR := Lib.hid hdr
          have HPS := Lib.hid hps
          have HT2 := Lib.hid hta
          have HSM := Lib.hid hsm
          have HL := Lib.hid hl4
          have HW4 := Lib.hid hw4
          have hwi : (who : Int) < 4 := by omega
          have hacc : (acc : Int) ≤ 8916100448256 := by have := HTB.out; omega
          unfold natV at g
          clear hc hof hwho hdr hps hta hsm hl4 hL HTA
          go_wp2_with fail
          go_loopw [7, 41] (fun kv iv wr => ∃ i acc2, i ≤ who ∧ iv = .int .i64 i ∧ kv = .int .i64 (acc2 : Nat) ∧ Hid (Below w.heap.size w wr) ∧ Hid (NatRow wr w.heap.size (.slice (some ⟨w.heap.size, 0, none⟩) 4 4) L) ∧ Hid (acc2 = acc + sumTo L i)) (fun _ iv _ => who - (intOf iv).toNat)
          case atStart => exact ⟨0, acc, Nat.zero_le _, rfl, rfl, HBL.out, HRW.out, rfl⟩
          case round =>
            clear HBL HRW g
            obtain ⟨i, acc2, hi, rfl, rfl, HBL, HRW, HAC⟩ := hrel
            by_cases hiw : i < who
            · have hi4 : i < 4 := by omega
              have hcell := row_cell HRW.out HL.out hi4
              have hfr := row_frozen HRW.out HL.out i
              have hxle := getD_le (l := L) (i := i) (by rw [HL.out]; exact hi4)
              obtain ⟨x, hx⟩ : ∃ x, x = L.getD i 0 := ⟨_, rfl⟩
              rw [← hx] at hcell hxle
              have hx12 : (x : Int) ≤ 12 := by have := HSM.out; omega
              by_cases hx0 : x = 0
              · have HSK := Lib.hid (sumTo_skip (l := L) (i := i) (by rw [← hx]; exact hx0))
                subst hx0
                clear hx hxle
                go_wp2
                go_roundw
                case rel => exact ⟨i + 1, acc2, by omega, by go_num, rfl, HBL.out, HRW.out, HAC.out.trans (by rw [HSK.out])⟩
                case measure => simp [intOf]; omega
              · have hne : L.getD i 0 ≠ 0 := by rw [← hx]; exact hx0
                have hnx := sumTo_next hne
                have hlw := sumTo_le_of (l := L) (show i + 1 ≤ who from hiw)
                have hx1 : (1 : Int) ≤ x := by omega
                have hst := row_set HRW.out HL.out i (x - 1)
                have hde : L.set i (x - 1) = dec L i := by rw [dec, ← hx]
                rw [hde, show ((x - 1 : Nat) : Int) = (x : Int) - 1 from by omega] at hst
                have hds := dec_sum hne
                have hcnt := count_is (l := dec L i) (by have := HSM.out; omega) (natS_of hst)
                have hdl : (dec L i).length = 4 := by rw [dec_length]; exact HL.out
                have hbk := row_set hst hdl i x
                have hfr2 := row_frozen hst hdl i
                have hcell2 := row_cell hst hdl hi4
                have hdg : (dec L i).getD i 0 = x - 1 := by rw [dec_get, if_pos rfl, ← hx]
                rw [hdg, show ((x - 1 : Nat) : Int) = (x : Int) - 1 from by omega] at hcell2
                have hback : (dec L i).set i x = L := by
                  have := dec_set (l := L) (i := i) (by rw [HL.out]; exact hi4)
                  rw [← hx] at this
                  exact this
                rw [hback] at hbk
                obtain ⟨c, hc⟩ : ∃ c, c = countR (dec L i) := ⟨_, rfl⟩
                rw [← hc] at hcnt hnx
                have hci : (acc2 : Int) + c ≤ 8916100448256 := by
                  have h1 := HAC.out
                  have h2 := HT2.out
                  have h3 := HTB.out
                  omega
                have hci0 : (c : Int) ≤ 8916100448256 := by omega
                have hai : (acc2 : Int) ≤ 8916100448256 := by omega
                have HCNT := Lib.hid hcnt
                have HBK := Lib.hid hbk
                have HNX := Lib.hid hnx
                have HB2 := Lib.hid (Below.setCell (Below.setCell HBL.out (Nat.le_refl _) (.int .i64 ((x : Int) - 1)) (p := ⟨w.heap.size, i, none⟩)) (Nat.le_refl _) (.int .i64 (x : Int)) (p := ⟨w.heap.size, i, none⟩))
                clear hx hxle hne hnx hlw hst hde hds hcnt hbk hdg hback hc hdl
                go_wp2_with fail
                refine HCNT.out.mono ?_
                rintro e w3 ⟨rfl, rfl⟩
                go_wp2
                go_roundw
                case rel => exact ⟨i + 1, acc2 + c, by omega, by go_num, by go_num, HB2.out, HBK.out, by show _ = _; rw [HNX.out, HAC.out]; omega⟩
                case measure => simp [intOf]; omega
            · obtain rfl : i = who := by omega
              have hcell := row_cell HRW.out HL.out HW4.out
              have hfr := row_frozen HRW.out HL.out i
              have hxle := getD_le (l := L) (i := i) (by rw [HL.out]; exact HW4.out)
              have hps := HPS.out
              have hst := row_set HRW.out HL.out i (L.getD i 0 - 1)
              have hde : L.set i (L.getD i 0 - 1) = dec L i := rfl
              rw [hde, ← HDR.out] at hst
              obtain ⟨x, hx⟩ : ∃ x, x = L.getD i 0 := ⟨_, rfl⟩
              rw [← hx] at hcell hxle hps hst
              have hx12 : (x : Int) ≤ 12 := by have := HSM.out; omega
              have hx1 : (1 : Int) ≤ x := by omega
              rw [show ((x - 1 : Nat) : Int) = (x : Int) - 1 from by omega] at hst
              have HST := Lib.hid hst
              have HB2 := Lib.hid (Below.setCell HBL.out (Nat.le_refl _) (.int .i64 ((x : Int) - 1)) (p := ⟨w.heap.size, i, none⟩))
              have HT3 : Hid (acc2 + ofR (cnt4 (o.drop (j + 1))) (o.drop (j + 1)) = T) := by
                show _ = _
                rw [HAC.out]; have := HT2.out; omega
              clear hx hxle hps hst hde
              go_wp2
              go_roundw
              case rel => exact ⟨j + 1, acc2, by omega, by go_num, rfl, HB2.out, HST.out, HT3.out⟩
              case measure => simp [intOf]; omega
        · obtain rfl : j = k := by omega
          have hfin := HTA.out
          rw [HN.out, List.drop_length, ofR, Nat.add_zero] at hfin
          subst hfin
          go_wp2
          go_ret2
          exact ⟨rfl, HBL.out⟩

theorem isnan_is (x : Nat) (w : World) : Calls Try.prog 44 #[.int .i64 x] w fun e w' => e = .returned (.bool false) ∧ w = w' := by
  go_enter Try.func44, Try.ntmps44
  go_wp2
  go_ret
  exact ⟨by simp, rfl⟩
def cmp1 (x y : Nat) : Int := if x < y then -1 else if y < x then 1 else 0
theorem cmp_is (x y : Nat) (w : World) : Calls Try.prog 36 #[.int .i64 x, .int .i64 y] w fun e w' => e = .returned (.int .i64 (cmp1 x y)) ∧ w = w' := by
  rcases Nat.lt_trichotomy x y with h | rfl | h
  · have hv : cmp1 x y = -1 := by rw [cmp1, if_pos h]
    rw [hv]
    have hi : (x : Int) < y := by omega
    clear h hv
    go_enter Try.func36, Try.ntmps36
    go_wp2_with (go_at_call 44; refine (isnan_is _ _).mono ?_; rintro e w' ⟨rfl, rfl⟩)
    go_ret
    exact ⟨rfl, rfl⟩
  · have hv : cmp1 x x = 0 := by simp [cmp1]
    rw [hv]
    clear hv
    go_enter Try.func36, Try.ntmps36
    go_wp2_with (go_at_call 44; refine (isnan_is _ _).mono ?_; rintro e w' ⟨rfl, rfl⟩)
    go_ret
    exact ⟨rfl, rfl⟩
  · have hv : cmp1 x y = 1 := by rw [cmp1, if_neg (by omega), if_pos h]
    rw [hv]
    have hi : (y : Int) < x := by omega
    clear h hv
    go_enter Try.func36, Try.ntmps36
    go_wp2_with (go_at_call 44; refine (isnan_is _ _).mono ?_; rintro e w' ⟨rfl, rfl⟩)
    go_ret
    exact ⟨rfl, rfl⟩
theorem cmpL_next {a b : List Nat} {k : Nat} (ha : k < a.length) (hb : k < b.length) : cmpL (a.drop k) (b.drop k) = if cmp1 (a.getD k 0) (b.getD k 0) = 0 then cmpL (a.drop (k + 1)) (b.drop (k + 1)) else cmp1 (a.getD k 0) (b.getD k 0) := by
  rw [drop_getD ha, drop_getD hb, cmpL]
  unfold cmp1
  generalize a.getD k 0 = x
  generalize b.getD k 0 = y
  by_cases h1 : x < y
  · simp [h1]
  · by_cases h2 : y < x
    · simp [h1, h2]
    · simp [h1, h2]
set_option maxHeartbeats 400000 in
theorem compare_is {w : World} {v v' : Value} {a b : List Nat} (ha : NatS w v a) (hb : NatS w v' b) : Calls Try.prog 24 #[v, v'] w fun e w' => e = .returned (.int .i64 (cmpL a b)) ∧ w = w' := by
  obtain ⟨pa, ca, rfl, hla, hca, hma⟩ := ha
  obtain ⟨pb, cb, rfl, hlb, hcb, hmb⟩ := hb
  have hla3 : a.length ≤ 9223372036854775807 := by unfold maxLen at hca; omega
  have hlb3 : b.length ≤ 9223372036854775807 := by unfold maxLen at hcb; omega
  obtain ⟨n, hn⟩ : ∃ n, n = a.length := ⟨_, rfl⟩
  obtain ⟨m, hm⟩ : ∃ m, m = b.length := ⟨_, rfl⟩
  rw [← hn] at hla hla3 ⊢
  rw [← hm] at hlb hlb3 ⊢
  have HN := Lib.hid hn
  have HM := Lib.hid hm
  have HA := Lib.hid hma
  have HB := Lib.hid hmb
  obtain ⟨R, hR⟩ : ∃ R, R = cmpL a b := ⟨_, rfl⟩
  rw [← hR]
  have HR := Lib.hid hR
  clear hn hm hma hmb hca hcb hR
  go_enter Try.func24, Try.ntmps24
  go_wp2_with fail
  go_loop [11] (fun iv => ∃ k, k ≤ n ∧ iv = .int .i64 k ∧ Hid (R = cmpL (a.drop k) (b.drop k)) ∧ k ≤ m) (fun iv => n - (intOf iv).toNat)
  case atStart => exact ⟨0, Nat.zero_le _, rfl, HR.out, Nat.zero_le _⟩
  case round =>
    obtain ⟨k, hk, rfl, HC, hkm⟩ := hrel
    by_cases hkn : k < n
    · have hka : k < a.length := by rw [← HN.out]; exact hkn
      rcases HA.out with h0 | ⟨b1, o1, rfl, _, hc1⟩
      · rw [h0] at hka; simp at hka
      have g1 := hc1 k hka
      by_cases hkb : k < m
      · have hkb' : k < b.length := by rw [← HM.out]; exact hkb
        rcases HB.out with h0 | ⟨b2, o2, rfl, _, hc2⟩
        · rw [h0] at hkb'; simp at hkb'
        have g2 := hc2 k hkb'
        have hnx := cmpL_next hka hkb'
        rw [← HC.out] at hnx
        obtain ⟨x, hx⟩ : ∃ x, x = a.getD k 0 := ⟨_, rfl⟩
        obtain ⟨y, hy⟩ : ∃ x, x = b.getD k 0 := ⟨_, rfl⟩
        rw [← hx] at g1 hnx
        rw [← hy] at g2 hnx
        have HNX := Lib.hid hnx
        unfold natV at g1 g2
        clear hx hy hnx hc1 hc2
        go_wp2_with fail
        refine (cmp_is x y _).mono ?_
        rintro e w1 ⟨rfl, rfl⟩
        obtain ⟨q, hq⟩ : ∃ q, q = cmp1 x y := ⟨_, rfl⟩
        rw [← hq] at HNX ⊢
        clear hq
        by_cases hq0 : q = 0
        · have h1 := HNX.out
          rw [if_pos hq0] at h1
          have HN1 := Lib.hid h1
          subst hq0
          clear h1 HNX
          go_wp2
          go_round
          case rel => exact ⟨k + 1, by omega, by go_num, HN1.out, by omega⟩
          case measure => simp [intOf]; omega
        · have h1 := HNX.out
          rw [if_neg hq0] at h1
          have hb1 : (q != 0) = true := by simp [hq0]
          subst h1
          clear HNX hq0
          go_wp2
          go_ret
          exact ⟨rfl, rfl⟩
      · obtain rfl : k = m := by omega
        have hR1 : R = 1 := by
          rw [HC.out, HM.out, List.drop_length]
          rw [HM.out] at hka
          rw [drop_getD hka]
          rfl
        subst hR1
        go_wp2
        go_ret
        exact ⟨rfl, rfl⟩
    · obtain rfl : k = n := by omega
      by_cases hkb : k < m
      · have hkb' : k < b.length := by rw [← HM.out]; exact hkb
        have hR1 : R = -1 := by
          rw [HC.out, HN.out, List.drop_length]
          rw [HN.out] at hkb'
          rw [drop_getD hkb']
          rfl
        subst hR1
        have hkm : (k : Int) < m := by omega
        go_wp2
        go_ret
        exact ⟨rfl, rfl⟩
      · obtain rfl : k = m := by omega
        have hR1 : R = 0 := by
          rw [HC.out, show a.drop k = [] from by rw [HN.out, List.drop_length], show b.drop k = [] from by rw [HM.out, List.drop_length]]
          rfl
        subst hR1
        go_wp2
        go_ret
        exact ⟨rfl, rfl⟩
end Go.Proofs.Ytopadiofanaaiaa.TurnLaw
