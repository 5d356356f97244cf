/- The walk of ringkeep5.TurnCount. -/
import Derived.Test.YtopadiofanaaiaaTurnRev
namespace Go.Proofs.Ytopadiofanaaiaa.TurnLaw
open Go.RowKit
set_option linter.unusedVariables false

/-- together of those whose first step may come first, of the first i -/
def sumTo (l : List Nat) : Nat → Nat
  | 0 => 0
  | i + 1 => if l.getD i 0 = 0 then sumTo l i else sumTo l i + countR (dec l i)
def someTo (l : List Nat) : Nat → Bool
  | 0 => false
  | i + 1 => if l.getD i 0 = 0 then someTo l i else true
theorem sumTo_skip {l : List Nat} {i : Nat} (h : l.getD i 0 = 0) : sumTo l (i + 1) = sumTo l i := by rw [sumTo, if_pos h]
theorem sumTo_next {l : List Nat} {i : Nat} (h : l.getD i 0 ≠ 0) : sumTo l (i + 1) = sumTo l i + countR (dec l i) := by rw [sumTo, if_neg h]
theorem someTo_skip {l : List Nat} {i : Nat} (h : l.getD i 0 = 0) : someTo l (i + 1) = someTo l i := by rw [someTo, if_pos h]
theorem someTo_next {l : List Nat} {i : Nat} (h : l.getD i 0 ≠ 0) : someTo l (i + 1) = true := by rw [someTo, if_neg h]
theorem sumTo_le' {l : List Nat} {M : Nat} (hM : ∀ i, l.getD i 0 ≠ 0 → countR (dec l i) ≤ M) : ∀ i, sumTo l i ≤ i * M := by
  intro i
  induction i with
  | zero => rw [sumTo]; exact Nat.zero_le _
  | succ i ih =>
    rw [Nat.succ_mul]
    by_cases h : l.getD i 0 = 0
    · rw [sumTo_skip h]; omega
    · rw [sumTo_next h]
      have := hM i h
      omega
theorem sumTo_le {l : List Nat} (hs : l.sum ≤ 12) (i : Nat) : sumTo l i ≤ i * 8916100448256 :=
  sumTo_le' (fun i h => count_small (dec l i) (by have := dec_sum h; omega)) i
def lawB (l : List Nat) : Bool := (countR l.reverse == countR l) && (if someTo l l.length = true then sumTo l l.length == countR l else countR l == 1)
theorem law0 : lawB [] = true := by decide +kernel
theorem law1 : ∀ a : Fin 5, lawB [a.val] = true := by decide +kernel
theorem law2 : ∀ a b : Fin 5, lawB [a.val, b.val] = true := by decide +kernel
theorem law3 : ∀ a b c : Fin 5, lawB [a.val, b.val, c.val] = true := by decide +kernel
theorem law4 : ∀ a b c d : Fin 5, lawB [a.val, b.val, c.val, d.val] = true := by decide +kernel
theorem law_all {l : List Nat} (h : l.length ≤ 4) (hx : ∀ x ∈ l, x ≤ 4) : lawB l = true := by
  have f : ∀ x ∈ l, x < 5 := fun x hm => Nat.lt_succ_of_le (hx x hm)
  match l, h, f with
  | [], _, _ => exact law0
  | [a], _, f => exact law1 ⟨a, f a (by simp)⟩
  | [a, b], _, f => exact law2 ⟨a, f a (by simp)⟩ ⟨b, f b (by simp)⟩
  | [a, b, c], _, f => exact law3 ⟨a, f a (by simp)⟩ ⟨b, f b (by simp)⟩ ⟨c, f c (by simp)⟩
  | [a, b, c, d], _, f => exact law4 ⟨a, f a (by simp)⟩ ⟨b, f b (by simp)⟩ ⟨c, f c (by simp)⟩ ⟨d, f d (by simp)⟩
  | _ :: _ :: _ :: _ :: _ :: _, h, _ => simp at h

set_option maxRecDepth 100000 in
set_option maxHeartbeats 4000000 in
theorem turncount_any {w : World} {v : Value} {xs : List Int} (k : Int) (hm : At (Value.int .i64) 0 w v xs) : Calls Try.prog 3 #[v, .int .i64 k] w fun e w' => e = .returned (.bool true) ∧ Below w.heap.size w w' := by
  have hlo := fun w' (hb : Below w.heap.size w w') => lens_of (w := w') (hm.keep hb)
  have HLO := Lib.hid hlo
  clear hlo hm
  go_enter Try.func3, Try.ntmps3
  go_wp2_with fail
  refine (turns_any _).mono ?_
  rintro e w1 ⟨rfl, hb1⟩
  have HB1 := Lib.hid hb1
  go_wp2_with fail
  refine (HLO.out _ hb1).mono ?_
  rintro e w2 ⟨v5, l, rfl, hrow, hb2, hg, hx⟩
  have HB2 := Lib.hid (HB1.out.trans (hb2.mono HB1.out.size))
  have hlaw := law_all hg.1 hx
  have HG := Lib.hid hg
  have HROW := Lib.hid hrow
  have hl4 := hg.1
  have hlv := natS_of hrow
  have HNS := Lib.hid hlv
  obtain ⟨a5, cap5, hv5, hcap5, hcm5, _⟩ := hlv
  subst hv5
  clear hb1 hb2 hg hx hrow hcap5 hcm5
  go_wp2_with fail
  refine (clone_is (Nat.le_trans hl4 (by decide)) HNS.out).mono ?_
  rintro e w3 ⟨v6, rfl, hrow6, hb3⟩
  have HB3 := Lib.hid (HB2.out.trans (hb3.mono HB2.out.size))
  have HB33 := Lib.hid hb3
  clear hb3
  go_wp2_with fail
  refine (reverse_is hrow6 hl4).mono ?_
  rintro e w4 ⟨rfl, hrow7, hb4⟩
  have HB4 := Lib.hid (show Below w2.heap.size w2 w4 from HB33.out.trans hb4)
  have HW4 := Lib.hid (HB2.out.trans (HB4.out.mono HB2.out.size))
  have HR4 := Lib.hid (row_below HROW.out HB4.out)
  have hgr : good4 l.reverse := ⟨by simpa using hl4, by rw [List.sum_reverse]; exact HG.out.2⟩
  have hcr := count_small _ hgr.2
  have hcl := count_small _ HG.out.2
  have HNR := Lib.hid (natS_of hrow7)
  have HGR := Lib.hid hgr
  clear hb4 hrow6 hrow7 hgr
  go_wp2_with fail
  refine (Count_is HG.out (natS_of HR4.out)).mono ?_
  rintro e w5 ⟨rfl, rfl⟩
  go_wp2_with fail
  refine (Count_is HGR.out HNR.out).mono ?_
  rintro e w5 ⟨rfl, rfl⟩
  unfold lawB at hlaw
  rw [Bool.and_eq_true] at hlaw
  obtain ⟨hlaw1, hlaw2⟩ := hlaw
  have hrev : countR l.reverse = countR l := by simpa using hlaw1
  rw [hrev]
  obtain ⟨C, hC⟩ : ∃ C, C = countR l := ⟨_, rfl⟩
  rw [← hC] at hlaw2 hcl ⊢
  have HL2 := Lib.hid hlaw2
  have hCi : (C : Int) ≤ 8916100448256 := by omega
  obtain ⟨n, hn⟩ : ∃ n, n = l.length := ⟨_, rfl⟩
  have HN := Lib.hid hn
  rw [← hn] at hl4 ⊢
  have hn4 : (n : Int) ≤ 4 := by omega
  clear hlaw1 hlaw2 hrev hcr hcl hC hn
  go_wp2_with fail
  go_loopw [11, 12, 37] (fun sv zv iv wr => ∃ i : Nat, i ≤ n ∧ sv = .int .i64 (sumTo l i) ∧ zv = .bool (someTo l i) ∧ iv = .int .i64 i ∧ Hid (Below w4.heap.size w4 wr)) (fun _ _ iv _ => n - (intOf iv).toNat)
  case atStart => exact ⟨0, Nat.zero_le _, rfl, rfl, rfl, Below.refl _ _⟩
  case round =>
    obtain ⟨i, hi, rfl, rfl, rfl, HBL⟩ := hrel
    by_cases hin : i < n
    · have hil : i < l.length := by rw [← HN.out]; exact hin
      have hrow := row_below HR4.out HBL.out
      have hsm := sumTo_le HG.out.2 i
      obtain ⟨q, hq⟩ : ∃ q, q = sumTo l i := ⟨_, rfl⟩
      obtain ⟨z, hz⟩ : ∃ q, q = someTo l i := ⟨_, rfl⟩
      have hss := @sumTo_skip l i
      have hsn := @sumTo_next l i
      have hzs := @someTo_skip l i
      have hzn := @someTo_next l i
      rw [← hq] at hsm hss hsn ⊢
      rw [← hz] at hzs ⊢
      have hqi : (q : Int) ≤ 35664401793024 := by
        have : i * 8916100448256 ≤ 4 * 8916100448256 := Nat.mul_le_mul_right _ (by omega)
        omega
      obtain ⟨x, hx⟩ : ∃ x, x = l.getD i 0 := ⟨_, rfl⟩
      rcases (natS_of hrow) with ⟨a, cap, hv, _, _, h0 | ⟨b, off, ha, hb, hc⟩⟩
      · rw [h0] at hil; simp at hil
      simp only [Value.slice.injEq] at hv
      obtain ⟨rfl, _, rfl⟩ := hv
      subst ha
      have g := hc i hil
      rw [← hx] at g
      have HX := Lib.hid hx
      have HSS := Lib.hid hss
      have HSN := Lib.hid hsn
      have HZS := Lib.hid hzs
      have HZN := Lib.hid hzn
      unfold natV at g
      have HRW := Lib.hid (natS_of hrow)
      rw [← HN.out] at HRW
      clear hq hz hss hsn hzs hzn hsm hc hrow
      by_cases hx0 : x = 0
      · have h0 : l.getD i 0 = 0 := by rw [← hx]; exact hx0
        have e1 := Lib.hid (HSS.out h0)
        have e2 := Lib.hid (HZS.out h0)
        subst hx0
        clear hx h0
        go_wp2
        go_roundw
        case rel => exact ⟨i + 1, by omega, by rw [e1.out], by rw [e2.out], by go_num, HBL.out⟩
        case measure => simp [intOf]; omega
      · have hne : l.getD i 0 ≠ 0 := by rw [← hx]; exact hx0
        have e1 := Lib.hid (HSN.out hne)
        have e2 := Lib.hid (HZN.out hne)
        have hx0' : ((x : Int) == 0) = false := by simp; omega
        have hx1 : (1 : Int) ≤ x := by omega
        have hx12 : (x : Int) ≤ 12 := by have := getD_le hil; have := HG.out.2; omega
        have hgd : good4 (dec l i) := ⟨by rw [dec_length]; exact HG.out.1, by have := dec_sum hne; have := HG.out.2; omega⟩
        have hcd := count_small _ hgd.2
        have HGD := Lib.hid hgd
        have HNE := Lib.hid hne
        clear hx0 hgd hne hx
        go_wp2_with fail
        refine (clone_is (by rw [← HN.out]; omega) (by rw [HN.out] at HRW ⊢; exact HRW.out)).mono ?_
        rintro e w6 ⟨v14, rfl, hrow14, hb6⟩
        have HB6 := Lib.hid hb6
        have hbl6 := HBL.out.trans (hb6.mono HBL.out.size)
        rcases hrow14.2 with ⟨_, hn0⟩ | ⟨g14, cap14, cur, rfl, _⟩
        · rw [← HN.out] at hn0; omega
        have hc14 := hrow14.cellAt i (by omega)
        have hf14 := hrow14.frozenAt i
        rw [List.getElem?_map, List.getElem?_eq_getElem hil] at hc14
        have hgd2 : l[i] = l.getD i 0 := by simp [List.getD, hil]
        rw [hgd2, ← HX.out] at hc14
        simp only [Option.map_some, natV] at hc14
        have hst := (hrow14.stored i (.int .i64 ((x : Int) - 1))).1
        have hset : (l.map natV).set i (.int .i64 ((x : Int) - 1)) = (dec l i).map natV := by
          rw [dec, List.map_set, ← HX.out]
          congr 1
          show Value.int .i64 ((x : Int) - 1) = Value.int .i64 ((x - 1 : Nat) : Int)
          congr 1; omega
        rw [hset] at hst
        have hgb := (hrow14.lt g14 rfl).1
        have hS : NatS (w6.setCell ⟨g14, i, none⟩ (.int .i64 ((x : Int) - 1))) (.slice (some ⟨g14, 0, none⟩) l.length cap14) (dec l i) := by
          have := at_of_owned (f := natV) (d := (0 : Nat)) (xs := dec l i) (by rw [dec_length]; exact hst)
          exact this
        have HB7 := Lib.hid (show Below w4.heap.size w4 (w6.setCell ⟨g14, i, none⟩ (.int .i64 ((x : Int) - 1))) from Below.setCell hbl6 (Nat.le_trans HBL.out.size hgb) _)
        have HCD := Lib.hid (Count_is HGD.out hS)
        obtain ⟨c, hcc⟩ : ∃ c, c = countR (dec l i) := ⟨_, rfl⟩
        rw [← hcc] at hcd HCD e1
        rw [← HN.out] at HCD ⊢
        have hci : (c : Int) ≤ 8916100448256 := by omega
        clear hb6 hbl6 hrow14 hst hset hS hgd2 hcc hcd hgb
        go_wp2_with fail
        refine HCD.out.mono ?_
        rintro e w7 ⟨rfl, rfl⟩
        go_wp2
        go_roundw
        case rel => exact ⟨i + 1, by omega, by rw [e1.out]; go_num, by rw [e2.out], by go_num, HB7.out⟩
        case measure => simp [intOf]; omega
    · obtain rfl : i = n := by omega
      have hl2 := HL2.out
      rw [← HN.out] at hl2
      obtain ⟨q, hq⟩ : ∃ q, q = sumTo l i := ⟨_, rfl⟩
      obtain ⟨z, hz⟩ : ∃ q, q = someTo l i := ⟨_, rfl⟩
      rw [← hq, ← hz] at hl2
      rw [← hq, ← hz]
      have HBF := Lib.hid (HW4.out.trans (HBL.out.mono HW4.out.size))
      have hCC : ((C : Int) == (C : Int)) = true := by simp
      clear hq hz hin hi
      cases z
      · have hC1 : C = 1 := by simpa using hl2
        subst hC1
        go_wp2_with fail
        refine (good_any _ _ [0, 0] _ (by simp) (two0 _ _)).mono ?_
        rintro e w5 ⟨rfl, rfl⟩
        rw [show ([(0 : Int), 0].all (· == 0)) = true from rfl]
        go_wp2
        go_ret
        exact ⟨rfl, HBF.out.alloc HBF.out.size _⟩
      · have hCq : q = C := by simpa using hl2
        subst hCq
        go_wp2_with fail
        refine (good_any _ _ [0, 0] _ (by simp) (two0 _ _)).mono ?_
        rintro e w5 ⟨rfl, rfl⟩
        rw [show ([(0 : Int), 0].all (· == 0)) = true from rfl]
        go_wp2
        go_ret
        exact ⟨rfl, HBF.out.alloc HBF.out.size _⟩
end Go.Proofs.Ytopadiofanaaiaa.TurnLaw
