/- The walks of package limit: kids, Check. -/
import Derived.Test.YtgdihccmkleimaaLimitLaws
import Derived.Test.YtgdihccmkleimaaBoxNestWalk
import Derived.Deep.RegionHeld3
import Derived.WalkSmall
namespace Go.Proofs.Ytgdihccmkleimaa.LimitLaw
open Go.RowKit
open BoxLaw (Rg Lies IsL)
set_option linter.unusedVariables false

theorem kids_take (l : List Rg) (k : Int) (j : Nat) (hj : j < l.length) : kidsL (l.take (j + 1)) k = kidsL (l.take j) k + (if (l.getD j r0).a = k then (l.getD j r0).b else 0) := by
  induction l generalizing j with
  | nil => simp at hj
  | cons r t ih =>
    cases j with
    | zero => simp [kidsL]
    | succ j =>
      have := ih j (by simpa using hj)
      simp only [List.take_succ_cons, kidsL, this]
      simp
      omega
theorem kids_bound (l : List Rg) (k : Int) (h : ∀ j, j < l.length → 0 ≤ (l.getD j r0).b ∧ (l.getD j r0).b ≤ 1000000) : 0 ≤ kidsL l k ∧ kidsL l k ≤ 1000000 * l.length := by
  induction l with
  | nil => simp [kidsL]
  | cons r t ih =>
    have h0 := h 0 (by simp)
    have := ih (fun j hj => by simpa using h (j + 1) (by simpa using hj))
    simp at h0
    simp only [kidsL, List.length_cons]
    split <;> omega

set_option maxHeartbeats 400000 in
theorem kids_some (b off cap : Nat) (l : List Rg) (k : Int) (w : World) (h12 : l.length ≤ 12) (hL : Lies w b off l) (hnum : ∀ j, j < l.length → 0 ≤ (l.getD j r0).b ∧ (l.getD j r0).b ≤ 1000000) :
    Calls Try.prog 58 #[.slice (some ⟨b, off, none⟩) l.length cap, .int .i64 k] w fun e w' => e = .returned (.int .i64 (kidsL l k)) ∧ Below w.heap.size w w' := by
  obtain ⟨n, hn⟩ : ∃ n, n = l.length := ⟨_, rfl⟩
  have HL := Lib.hid hL
  have HN := Lib.hid hn
  have HB := Lib.hid hnum
  rw [← hn] at h12 ⊢
  clear hL hn hnum
  go_enter Try.func58, Try.ntmps58
  go_wp2
  go_loopw [5, 10] (fun sv iv wr => ∃ (j : Nat), j ≤ n ∧ iv = .int .i64 j ∧ sv = .int .i64 (kidsL (l.take j) k) ∧ Below w.heap.size w wr) (fun _ iv _ => n - (intOf iv).toNat)
  case atStart => exact ⟨0, Nat.zero_le _, rfl, rfl, Below.refl _ _⟩
  case round =>
    obtain ⟨j, hj, rfl, rfl, hbel⟩ := hrel
    have hsb := kids_bound (l.take j) k (fun i hi => by
      have hi' : i < j ∧ i < l.length := by have h2 := hi; rw [List.length_take] at h2; omega
      have := HB.out i hi'.2
      rw [show (l.take j).getD i r0 = l.getD i r0 by simp [List.getD, hi'.1]]; exact this)
    have hlt' : (l.take j).length ≤ 12 := by rw [List.length_take]; omega
    obtain ⟨s, hs⟩ : ∃ s, s = kidsL (l.take j) k := ⟨_, rfl⟩
    rw [← hs] at hsb ⊢
    have s0 := hsb.1
    have s1 : s ≤ 12000000 := by omega
    have HS := Lib.hid hs
    clear hs hsb hlt'
    by_cases hlt : j < n
    · obtain ⟨r, hr⟩ : ∃ r, r = l.getD j r0 := ⟨_, rfl⟩
      have g1 := (hbel.cell (p := ⟨b, off + j * 3, none⟩) HL.out.lt).trans (HL.out.ca j (by rw [← HN.out]; exact hlt))
      have g2 := (hbel.cell (p := ⟨b, off + j * 3 + 1, none⟩) HL.out.lt).trans (HL.out.cb j (by rw [← HN.out]; exact hlt))
      have g3 := (hbel.cell (p := ⟨b, off + j * 3 + 2, none⟩) HL.out.lt).trans (HL.out.cn j (by rw [← HN.out]; exact hlt))
      have hrb := HB.out j (by rw [← HN.out]; exact hlt)
      have hkt := kids_take l k j (by rw [← HN.out]; exact hlt)
      rw [← hr] at g1 g2 g3 hrb hkt
      rw [← HS.out] at hkt
      obtain ⟨rb0, rb1⟩ := hrb
      have HR := Lib.hid hr
      clear hr
      by_cases hk : r.a = k
      · rw [if_pos hk] at hkt
        have HKT := Lib.hid hkt
        have hb : (r.a == k) = true := by simp [hk]
        clear hk hkt
        go_wp2
        go_roundw
        case rel => exact ⟨j + 1, by omega, by go_num, by rw [HKT.out], hbel.alloc hbel.size _⟩
        case measure => simp [intOf]; omega
      · rw [if_neg hk, Int.add_zero] at hkt
        have HKT := Lib.hid hkt
        have hb : (r.a == k) = false := by simp [hk]
        clear hk hkt
        go_wp2
        go_roundw
        case rel => exact ⟨j + 1, by omega, by go_num, by rw [HKT.out], hbel.alloc hbel.size _⟩
        case measure => simp [intOf]; omega
    · obtain rfl : j = n := by omega
      go_wp2
      go_ret
      exact ⟨BoxLaw.ret_int (by rw [HS.out, List.take_of_length_le (by rw [← HN.out]; omega)]), hbel⟩

theorem chk1_up {l : List Rg} {k : Nat} (h : k < l.length) (hc : chk1 0 l = chk1 k (l.drop k)) (hb : ¬ okUp k (l.getD k r0) = true) : chk1 0 l = 3 := by
  rw [hc, BoxLaw.drop_get l k h, chk1, if_neg hb]
theorem chk1_num {l : List Rg} {k : Nat} (h : k < l.length) (hc : chk1 0 l = chk1 k (l.drop k)) (ha : okUp k (l.getD k r0) = true) (hb : ¬ okNum (l.getD k r0) = true) : chk1 0 l = 1 := by
  rw [hc, BoxLaw.drop_get l k h, chk1, if_pos ha, if_neg hb]
theorem chk1_next {l : List Rg} {k : Nat} (h : k < l.length) (hc : chk1 0 l = chk1 k (l.drop k)) (ha : okUp k (l.getD k r0) = true) (hb : okNum (l.getD k r0) = true) : chk1 0 l = chk1 (k + 1) (l.drop (k + 1)) := by
  rw [hc, BoxLaw.drop_get l k h, chk1, if_pos ha, if_pos hb]
theorem chk2_bad {l : List Rg} {k : Nat} (h : k < l.length) (hb : over l k = true) : chk2 l = 20 := by
  rw [chk2, if_pos]
  exact List.any_eq_true.2 ⟨k, by simpa using h, hb⟩
theorem chk2_ok {l : List Rg} (hb : ∀ k, k < l.length → over l k = false) : chk2 l = 0 := by
  rw [chk2, if_neg]
  intro h
  obtain ⟨i, hi, hv⟩ := List.any_eq_true.1 h
  rw [hb i (by simpa using hi)] at hv; cases hv

set_option maxHeartbeats 1000000 in
theorem check_some (b off cap : Nat) (l : List Rg) (w : World) (hl : l.length ≤ cap) (hL : Lies w b off l) :
    Calls Try.prog 38 #[.slice (some ⟨b, off, none⟩) l.length cap] w fun e w' => e = .returned (.int .i64 (chkT l)) ∧ Below w.heap.size w w' := by
  have hkids := fun (k : Int) (w1 : World) (h : Below w.heap.size w w1) (h12 : l.length ≤ 12) (hnum : ∀ j, j < l.length → 0 ≤ (l.getD j r0).b ∧ (l.getD j r0).b ≤ 1000000) => kids_some b off cap l k w1 h12 (hL.below h hL.lt) hnum
  obtain ⟨n, hn⟩ : ∃ n, n = l.length := ⟨_, rfl⟩
  rw [← hn] at hl hkids ⊢
  have HL := Lib.hid hL
  have HN := Lib.hid hn
  have HK := Lib.hid hkids
  clear hL hn hkids
  by_cases h12 : 12 < n
  · go_enter Try.func38, Try.ntmps38
    go_wp2
    go_ret
    exact ⟨BoxLaw.ret_int (by rw [chkT, ← HN.out, if_pos h12]), Below.refl _ _⟩
  · go_enter Try.func38, Try.ntmps38
    go_wp2
    go_loopw [11] (fun i wr => ∃ k : Nat, k ≤ n ∧ i = .int .i64 k ∧ Below w.heap.size w wr ∧ Hid (chk1 0 l = chk1 k (l.drop k))) (fun i _ => n - (intOf i).toNat)
    case atStart => exact ⟨0, Nat.zero_le _, rfl, Below.refl _ _, rfl⟩
    case round =>
      obtain ⟨k, hk, rfl, hbel, HC⟩ := hrel
      by_cases hlt : k < n
      · obtain ⟨r, hr⟩ : ∃ r, r = l.getD k r0 := ⟨_, rfl⟩
        have g1 := (hbel.cell (p := ⟨b, off + k * 3, none⟩) HL.out.lt).trans (HL.out.ca k (by rw [← HN.out]; exact hlt))
        have g2 := (hbel.cell (p := ⟨b, off + k * 3 + 1, none⟩) HL.out.lt).trans (HL.out.cb k (by rw [← HN.out]; exact hlt))
        have g3 := (hbel.cell (p := ⟨b, off + k * 3 + 2, none⟩) HL.out.lt).trans (HL.out.cn k (by rw [← HN.out]; exact hlt))
        rw [← hr] at g1 g2 g3
        have HR := Lib.hid hr
        clear hr
        by_cases hup : okUp k r = true
        · obtain ⟨u0, u1⟩ := (okUp_iff k r).1 hup
          have HU := Lib.hid hup
          clear hup
          by_cases hnum : okNum r = true
          · obtain ⟨m0, m1, m2, m3⟩ := (okNum_iff r).1 hnum
            have HM := Lib.hid hnum
            clear hnum
            go_wp2
            go_roundw
            case rel => exact ⟨k + 1, by omega, by go_num, hbel.alloc hbel.size _, chk1_next (by rw [← HN.out]; exact hlt) HC.out (by rw [← HR.out]; exact HU.out) (by rw [← HR.out]; exact HM.out)⟩
            case measure => simp [intOf]; omega
          · have hcase : r.n < 0 ∨ (0 ≤ r.n ∧ 1000000 < r.n) ∨ ((0 ≤ r.n ∧ r.n ≤ 1000000) ∧ r.b < 0) ∨ ((0 ≤ r.n ∧ r.n ≤ 1000000) ∧ 0 ≤ r.b ∧ r.n < r.b) := by rw [okNum_iff] at hnum; omega
            have HM := Lib.hid hnum
            clear hnum
            rcases hcase with hc | hc | hc | hc
            all_goals
              go_wp2
              go_ret
              exact ⟨BoxLaw.ret_int (by rw [chkT, ← HN.out, if_neg h12, chk1_num (by rw [← HN.out]; exact hlt) HC.out (by rw [← HR.out]; exact HU.out) (by rw [← HR.out]; exact HM.out)]; rfl), hbel.alloc hbel.size _⟩
        · have hcase : r.a < -1 ∨ (-1 ≤ r.a ∧ k ≤ r.a) := by rw [okUp_iff] at hup; omega
          have HU := Lib.hid hup
          clear hup
          rcases hcase with hc | hc
          all_goals
            go_wp2
            go_ret
            exact ⟨BoxLaw.ret_int (by rw [chkT, ← HN.out, if_neg h12, chk1_up (by rw [← HN.out]; exact hlt) HC.out (by rw [← HR.out]; exact HU.out)]; rfl), hbel.alloc hbel.size _⟩
      · obtain rfl : k = n := by omega
        have hc0 : chk1 0 l = 0 := by rw [HC.out, List.drop_of_length_le (by rw [← HN.out]; omega)]; rfl
        have hgood := (chk1_good l).1 hc0
        have HC0 := Lib.hid hc0
        have hkn : ∀ j, j < l.length → 0 ≤ (l.getD j r0).b ∧ (l.getD j r0).b ≤ 1000000 := fun j hj => by have := hgood.num j hj; omega
        have HKN := Lib.hid hkn
        clear hc0 hgood hkn hlt
        obtain ⟨wo, rfl⟩ : ∃ wo : World, wo = wr := ⟨_, rfl⟩
        go_wp2_with fail
        go_loopw [48] (fun i wr => ∃ j : Nat, j ≤ k ∧ i = .int .i64 j ∧ Below w.heap.size w wr ∧ Hid (∀ x, x < j → over l x = false)) (fun i _ => k - (intOf i).toNat)
        case atStart => exact ⟨0, Nat.zero_le _, rfl, hbel, fun x hx => absurd hx (Nat.not_lt_zero _)⟩
        case round =>
          clear hbel
          obtain ⟨j, hj, rfl, hbel, HO⟩ := hrel
          by_cases hlt : j < k
          · obtain ⟨r, hr⟩ : ∃ r, r = l.getD j r0 := ⟨_, rfl⟩
            have g2 := (hbel.cell (p := ⟨b, off + j * 3 + 1, none⟩) HL.out.lt).trans (HL.out.cb j (by rw [← HN.out]; exact hlt))
            rw [← hr] at g2
            have HR := Lib.hid hr
            clear hr
            have hbl := Lib.hid HL.out.lt
            obtain ⟨kd, hkd⟩ : ∃ kd, kd = kidsL l j := ⟨_, rfl⟩
            have HKD := Lib.hid hkd
            clear hkd
            have hblt : b < wr.heap.size := Nat.lt_of_lt_of_le HL.out.lt hbel.size
            have hj0 : (0 : Int) ≤ (j : Int) := by omega
            have h12l : k ≤ 12 := by omega
            have hcall := HK.out j
            rw [← HKD.out] at hcall
            have hcall' := fun w1 hb => hcall w1 hb h12l (by rw [HN.out]; exact HKN.out)
            clear hcall h12l
            have hj1 : (j : Int) < (k : Int) := by omega
            by_cases hov : r.b < kd
            · go_wp2_with fail
              go_region_held3 (fun w' => w'.cell? ⟨b, off + j * 3 + 1, none⟩ = some (.int .i64 r.b)) (go_keep)
                (first | (go_at_call 58; refine (hcall' _ hbel.drew).mono ?_; rintro e w2 ⟨rfl, hb2⟩; have hS := (hb2.cell (p := ⟨b, off + j * 3 + 1, none⟩) hblt).trans g2))
              have hov' : over l j = true := by rw [over, decide_eq_true_eq, ← HR.out, ← HKD.out]; exact hov
              have HOV := Lib.hid hov'
              clear hov'
              go_wp2
              go_ret
              refine ⟨BoxLaw.ret_int (by rw [chkT, ← HN.out, if_neg h12, if_pos HC0.out, chk2_bad (k := j) (by rw [← HN.out]; exact hlt) HOV.out]), ?_⟩
              exact hbel.drew.trans (hb2.mono hbel.drew.size)
            · go_wp2_with fail
              go_region_held3 (fun w' => w'.cell? ⟨b, off + j * 3 + 1, none⟩ = some (.int .i64 r.b)) (go_keep)
                (first | (go_at_call 58; refine (hcall' _ hbel.drew).mono ?_; rintro e w2 ⟨rfl, hb2⟩; have hS := (hb2.cell (p := ⟨b, off + j * 3 + 1, none⟩) hblt).trans g2))
              have hov' : over l j = false := by rw [over, decide_eq_false_iff_not, ← HR.out, ← HKD.out]; exact Int.not_lt.2 (by omega)
              have HOV := Lib.hid hov'
              clear hov'
              go_wp2
              go_roundw
              case rel =>
                refine ⟨j + 1, by omega, by go_num, ?_, fun x hx => ?_⟩
                · exact hbel.drew.trans (hb2.mono hbel.drew.size)
                · by_cases hxj : x < j
                  · exact HO.out x hxj
                  · obtain rfl : x = j := by omega
                    exact HOV.out
              case measure => simp [intOf]; omega
          · obtain rfl : j = k := by omega
            go_wp2
            go_ret
            exact ⟨BoxLaw.ret_int (by rw [chkT, ← HN.out, if_neg h12, if_pos HC0.out, chk2_ok (fun x hx => HO.out x (by rw [HN.out]; exact hx))]), hbel⟩
end Go.Proofs.Ytgdihccmkleimaa.LimitLaw
