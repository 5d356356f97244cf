/- Walks of ringkeep5's good. The walk of the law ringkeep5.KernelRights. -/
import Derived.Test.YthioadiiedlmfaaGreatDoorTab
import Derived.Test.YthioadiiedlmfaaGreatDoorKerN
namespace Go.Proofs.YthioadiiedlmfaaGreatDoor
set_option linter.unusedSimpArgs false
open Go.RowKit
set_option linter.unusedVariables false


/-- where the first number that is not 0 stands; -1 -/
def firstBad : List Int → Int → Int
  | [], _ => -1
  | e :: t, i => if e = 0 then firstBad t (i + 1) else i
theorem firstBad_ge (l : List Int) : ∀ i, 0 ≤ i → (0 ≤ firstBad l i ↔ l.all (· == 0) = false) ∧ -1 ≤ firstBad l i := by
  induction l with
  | nil => intro i hi; simp [firstBad]
  | cons e t ih =>
    intro i hi
    simp only [firstBad]
    by_cases h : e = 0
    · rw [if_pos h]
      have := ih (i + 1) (by omega)
      simpa [h] using this
    · rw [if_neg h]
      simp [h]
      omega
theorem firstBad_skip (l : List Int) : ∀ (k : Nat) (i : Int), k ≤ l.length → (∀ j, j < k → l.getD j 0 = 0) → firstBad l i = firstBad (l.drop k) (i + k) := by
  induction l with
  | nil => intro k i hk _; simp at hk; subst hk; simp
  | cons e t ih =>
    intro k i hk h
    cases k with
    | zero => simp
    | succ k =>
      have h0 := h 0 (by omega)
      simp at h0
      simp only [firstBad, if_pos h0, List.drop_succ_cons]
      rw [ih k (i + 1) (by simpa using hk) (fun j hj => by simpa using h (j + 1) (by omega))]
      congr 1; omega

theorem bad_any (e : Int) (w : World) : Calls Tryz.prog 18 #[.int .i64 e] w fun r w' => r = .returned (.bool (e != 0)) ∧ w = w' := by
  go_enter Tryz.func18, Tryz.ntmps18
  go_wp2
  go_ret
  exact ⟨rfl, rfl⟩

theorem indexBad_any (b cap : Nat) (l : List Int) (w : World) (hl : l.length ≤ 4294967296) (hc : ∀ i, i < l.length → w.cell? ⟨b, i, none⟩ = some (.int .i64 (l.getD i 0))) :
    Calls Tryz.prog 39 #[.slice (some ⟨b, 0, none⟩) l.length cap, .func (.func 18) #[] #[]] w fun e w' => e = .returned (.int .i64 (firstBad l 0)) ∧ w = w' := by
  obtain ⟨n, hn⟩ : ∃ n, n = l.length := ⟨_, rfl⟩
  have HC := Lib.hid hc
  have HN := Lib.hid hn
  rw [← hn] at hl ⊢
  clear hc hn
  go_enter Tryz.func39, Tryz.ntmps39
  go_wp2_with fail
  go_loop [8] (fun i => ∃ k : Nat, k ≤ n ∧ i = .int .i64 k ∧ Hid (∀ j, j < k → l.getD j 0 = 0)) (fun i => n - (intOf i).toNat)
  case atStart => exact ⟨0, Nat.zero_le _, rfl, fun j hj => absurd hj (Nat.not_lt_zero _)⟩
  case round =>
    obtain ⟨k, hk, rfl, HM⟩ := hrel
    by_cases hlt : k < n
    · obtain ⟨x, hx⟩ : ∃ x, x = l.getD k 0 := ⟨_, rfl⟩
      have g1 := HC.out k (by rw [← HN.out]; exact hlt)
      rw [← hx] at g1
      have HX := Lib.hid hx
      clear hx
      by_cases hz : x = 0
      · have hb : (x != 0) = false := by simp [hz]
        have HZ := Lib.hid hz
        clear hz
        go_wp2_with (go_at_call 18; refine (bad_any _ _).mono ?_; rintro e w' ⟨rfl, rfl⟩)
        go_round
        case rel => exact ⟨k + 1, by omega, by go_num, fun j hj => by
          rcases Nat.lt_succ_iff_lt_or_eq.1 hj with h | rfl
          · exact HM.out j h
          · rw [← HX.out]; exact HZ.out⟩
        case measure => simp [intOf]; omega
      · have hb : (x != 0) = true := by simp [hz]
        have HZ := Lib.hid hz
        clear hz
        go_wp2_with (go_at_call 18; refine (bad_any _ _).mono ?_; rintro e w' ⟨rfl, rfl⟩)
        go_ret
        refine ⟨ret_int ?_, rfl⟩
        rw [firstBad_skip l k 0 (by rw [← HN.out]; omega) HM.out, List.drop_eq_getElem_cons (by rw [← HN.out]; exact hlt), firstBad, if_neg]
        · omega
        · have := HX.out
          simp only [List.getD, List.getElem?_eq_getElem (show k < l.length by rw [← HN.out]; exact hlt), Option.getD_some] at this
          rw [← this]; exact HZ.out
    · obtain rfl : k = n := by omega
      go_wp2_with fail
      go_ret
      refine ⟨ret_int ?_, rfl⟩
      rw [firstBad_skip l k 0 (by rw [← HN.out]; omega) HM.out, List.drop_of_length_le (by rw [← HN.out]; omega)]
      rfl

theorem good_any (b cap : Nat) (l : List Int) (w : World) (hl : l.length ≤ 4294967296) (hc : ∀ i, i < l.length → w.cell? ⟨b, i, none⟩ = some (.int .i64 (l.getD i 0))) :
    Calls Tryz.prog 7 #[.slice (some ⟨b, 0, none⟩) l.length cap] w fun e w' => e = .returned (.bool (l.all (· == 0))) ∧ w = w' := by
  have HI := Lib.hid (indexBad_any b cap l w hl hc)
  obtain ⟨f, hf⟩ : ∃ f, f = firstBad l 0 := ⟨_, rfl⟩
  have hfb := firstBad_ge l 0 (by omega)
  rw [← hf] at HI hfb
  obtain ⟨h1, h2⟩ := hfb
  clear hc hf
  obtain ⟨n, hn⟩ : ∃ n, n = l.length := ⟨_, rfl⟩
  rw [← hn] at HI ⊢
  clear hn hl
  cases hg : l.all (· == 0)
  · have hf0 : 0 ≤ f := h1.2 hg
    clear h1 hg
    go_enter Tryz.func7, Tryz.ntmps7
    go_wp2_with (first | (go_at_call 17; go_in) | (go_at_call 39; refine HI.out.mono ?_; rintro e w' ⟨rfl, rfl⟩))
    go_ret
    exact ⟨rfl, rfl⟩
  · have hf0 : f < 0 := by
      rcases Int.lt_or_le f 0 with h | h
      · exact h
      · have := h1.1 h; rw [hg] at this; cases this
    clear h1 hg
    go_enter Tryz.func7, Tryz.ntmps7
    go_wp2_with (first | (go_at_call 17; go_in) | (go_at_call 39; refine HI.out.mono ?_; rintro e w' ⟨rfl, rfl⟩))
    go_ret
    exact ⟨ret_bool (by simp; omega), rfl⟩
end Go.Proofs.YthioadiiedlmfaaGreatDoor
namespace Go.Proofs.YthioadiiedlmfaaGreatDoor
open Go.RowKit
set_option linter.unusedVariables false
set_option linter.unusedSimpArgs false
def callF (n a b c : Int) : Array Value := #[.int .i64 n, .int .i64 a, .int .i64 b, .int .i64 c, .string ⟨#[102]⟩, .string ByteArray.empty, .slice none 0 0]
theorem bdf_4 (w : World) (n a b c : Int) : (bdC #[(0, .int .i64 n), (4, .string ⟨#[102]⟩), (1, .int .i64 a), (2, .int .i64 b), (3, .int .i64 c)]).run Tryz.prog w = .ok (.agg (callF n a b c)) w := by kernel_rfl
theorem bdf_1 (w : World) (n a : Int) : (bdC #[(0, .int .i64 n), (4, .string ⟨#[102]⟩), (1, .int .i64 a)]).run Tryz.prog w = .ok (.agg (callF n a 0 0)) w := by kernel_rfl
theorem okF_4 {m : Nat} (h : m ≤ 511) : okF m false = (bits .and .i64 ((m : Int) / 8) 4 != 0) := by
  have : ∀ k, k < 512 → okF k false = (bits .and .i64 ((k : Int) / 8) 4 != 0) := by decide +kernel
  exact this m (by omega)
theorem okF_2 {m : Nat} (h : m ≤ 511) : okF m true = (bits .and .i64 ((m : Int) / 8) 2 != 0) := by
  have : ∀ k, k < 512 → okF k true = (bits .and .i64 ((k : Int) / 8) 2 != 0) := by decide +kernel
  exact this m (by omega)
theorem good3_is (w : World) : Calls Tryz.prog 7 #[.slice (some ⟨w.heap.size, 0, none⟩) 3 3] (w.alloc (.cells #[.int .i64 0, .int .i64 0, .int .i64 0] 27)) fun e w' => e = .returned (.bool true) ∧ (w.alloc (.cells #[.int .i64 0, .int .i64 0, .int .i64 0] 27)) = w' := good_any w.heap.size 3 [0, 0, 0] _ (by decide) (fun j hj => by
    rw [(row_new w 27 #[.int .i64 0, .int .i64 0, .int .i64 0]).cell]
    have : j = 0 ∨ j = 1 ∨ j = 2 := by simp at hj; omega
    rcases this with rfl | rfl | rfl <;> rfl)
section
attribute [local go_sem ↓] ld_ans st_ans bd_call
set_option maxRecDepth 100000 in
set_option maxHeartbeats 8000000 in
theorem rights_any (w : World) (mode user : Int) (wr : Bool) :
    Calls Tryz.prog 3 #[.int .i64 mode, .int .i64 user, .bool wr] w fun e w' => e = .returned (.bool true) ∧ Below w.heap.size w w' := by
  have hb0 := bdc_0
  have hb1 := bdc_1
  have hf4 := bdf_4
  have hf1 := bdf_1
  have HS := Lib.hid (started2_is w)
  go_enter Tryz.func3, Tryz.ntmps3
  go_upto_region 4 with (go_at_call 4; refine HS.out.mono ?_; rintro e1 w1 ⟨K, D, B, P, Wh, Fi, Pr, R, M, so, sp, c, rfl, hks, ⟨fk, fx, hc2, hst, hr, n1, n2, n3, n4⟩, hB, hbw⟩)
  obtain ⟨tag, Tb, cc, wb, hkt, h63, hlo⟩ := hks.toKT2
  have hor := hks.or
  have hkb := hks.kp.b
  have hKF : KF w1 ⟨K, Wh, Fi, Pr, R, M, so⟩ (sS0 c tag Tb cc sp wb) fk fx := ⟨hkt, hc2, hst, fun j e => by
    have h1 := n4 j e
    cases Nat.eq_zero_or_pos (tag j) with
    | inl q => exact q
    | inr q =>
      have h2 := hlo j (by omega)
      omega⟩
  have HE1 : Hid (EF w w1 ⟨K, Wh, Fi, Pr, R, M, so⟩ (sS0 c tag Tb cc sp wb) fk fx []) := Lib.hid ⟨hKF, hbw, fun j hj => Nat.le_trans hB (hlo j hj).1, fun j e => (n4 j e).1, fun _ h => nomatch h⟩
  have HKS := Lib.hid hks
  obtain ⟨-, hgw, -, hgt⟩ := hkt.cw 1 wb rfl
  have HWB : Hid (Who w1 (sS0 c tag Tb cc sp wb) 1 0 127 none 0 wb 1 ∧ ¬ fx.bs wb ∧ wb ≠ Fi) := Lib.hid ⟨who1 hks h63 hgw, (fun e => absurd ((hKF.sep _ e).symm.trans hgt) (by decide)), (fun e => absurd (hkt.tFi.symm.trans (e ▸ hgt)) (by decide))⟩
  have HRT := Lib.hid (And.intro hr (And.intro n1 (And.intro n2 n3)))
  clear hkt hlo hks hB hbw HS hKF hst hr n1 n2 n3 n4 hc2 h63 hor hkb hgw hgt
  have i0 : 0 ≤ mode % 512 := Int.emod_nonneg mode (by decide)
  have i1 : mode % 512 < 512 := Int.emod_lt_of_pos mode (by decide)
  have j0 : 0 ≤ user % 90 := Int.emod_nonneg user (by decide)
  have j1 : user % 90 < 90 := Int.emod_lt_of_pos user (by decide)
  have y1 : IntKind.i64.wrap (1 + user % 90) = 1 + user % 90 := IntWalk.i64_in _ (by omega)
  have HW1 := Lib.hid (within_any mode 512 w1 (by decide) (by decide))
  have HW2 := Lib.hid (within_any user 90 w1 (by decide) (by decide))
  go_upto_region 5 with (first | (go_at_call 5; (with_reducible refine HW1.out.mono ?_); rintro e5 w6 ⟨rfl, rfl⟩) | (go_at_call 5; (with_reducible refine HW2.out.mono ?_); rintro e5 w6 ⟨rfl, rfl⟩))
  clear HW1 HW2 y1
  generalize hU : 1 + user % 90 = U at *
  obtain ⟨m, hm⟩ : ∃ m : Nat, (m : Int) = mode % 512 := ⟨(mode % 512).toNat, by omega⟩
  rw [← hm] at i0 i1 ⊢
  have hU1 : 1 ≤ U ∧ U ≤ 99 := by omega
  have hm1 : m ≤ 511 := by omega
  clear hU hm i0 i1 j0 j1
  have HA1 := Lib.hid (HE1.out.ask (p := 1) (A := callF 5 3 1 m) (HKS.out.calm.awake (s := sS0 c tag Tb cc sp wb) (by decide) (by decide) start1) rfl (fun ok => doD_is ok rfl rfl rfl (descO_is ok rfl rfl rfl (spec_openN HE1.out.kf HWB.out.1 (by decide) HRT.out.1 (by rw [HRT.out.2.1]; decide) (m := m) ⟨by omega, by omega⟩ rfl rfl rfl rfl rfl ⟨by rw [HRT.out.2.2.1]; decide, by rw [HRT.out.2.2.2]; decide⟩ ⟨0, by decide, rfl⟩ ⟨0, by decide, rfl⟩ HWB.out.2.1 HWB.out.2.2))))
  go_upto_region 6 with (go_at_call 6; refine HA1.out.mono ?_; rintro e4 w4 ⟨s1, x1, ga, ea, a1, b1, rfl, ⟨rfl, j, k0, hj, hk0, rfl, hf, hnh, hhd, rfl⟩, hel, hgc⟩; have hst := ans_new w4 0 a1 b1; have HE4 := Lib.hid hel; have HF := Lib.hid (And.intro hf (And.intro hnh hhd)); have HJ := Lib.hid (And.intro hj hk0); clear hel hf hnh hhd hj hk0 hgc)
  clear hst HA1 HE1 HWB
  generalize w4.alloc (.cells (ansV 0 a1 b1 (.slice none 0 0)) 33) = w5 at *
  generalize w4.heap.size = g1 at *
  have HA2 := Lib.hid (HE4.out.ask (p := 1) (A := callA 2 0 0 0) (HKS.out.calm.awake (s := OpenTo (sS0 c tag Tb cc sp ga) 1 3 j k0) (by decide) (by decide) start1) rfl (fun ok => doP_is ok (.inr (.inl rfl)) rfl rfl (proc_fork (by decide) (by decide) ok rfl rfl (fork_spec HE4.out.kf (frk_spec HKS.out HJ.out.1 HJ.out.2 HE4.out.kf.kt) (fun _ _ _ _ _ q => q.2.2.2.2)))))
  go_upto_region 7 with (go_at_call 6; refine HA2.out.mono ?_; rintro e6 w6 ⟨s2, x2, g, eb, a2, b2, rfl, ⟨rfl, hgt, hgb, rfl, rfl, rfl, hq, -⟩, hel, hgc⟩; have hst := ans_new w6 0 2 0; have HE6 := Lib.hid hel; have HQ := Lib.hid (And.intro hq (And.intro hgt hgb)); have HGC := Lib.hid hgc; clear hel hq hgt hgb hgc)
  clear hst HA2 HE4 HKS
  generalize w6.alloc (.cells (ansV 0 2 0 (.slice none 0 0)) 33) = w7 at *
  generalize w6.heap.size = g2 at *
  have a21 : w7.cell? ⟨g2, 1, none⟩ = some (.int .i64 2) := by rw [(HE6.out.rows _ (List.mem_cons_self ..)).1.cell]; rfl
  obtain ⟨b5, cp, hwho⟩ := HQ.out.1.who HGC.out
  have hgK : g ≠ K := fun e => by
    have h1 := HE6.out.kf.kt.tK
    rw [show (⟨K, Wh, Fi, Pr, R, M, so⟩ : KC).K = g from e.symm, HQ.out.2.1] at h1
    cases h1
  have hgF : g ≠ Fi := fun e => by
    have h1 := HE6.out.kf.kt.tFi
    rw [show (⟨K, Wh, Fi, Pr, R, M, so⟩ : KC).Fi = g from e.symm, HQ.out.2.1] at h1
    cases h1
  have HA3 := Lib.hid (HE6.out.ask (p := 2) (A := callA 26 U 0 0) (HQ.out.1.c2.awake (by decide) (by decide) (by rw [HQ.out.1.t]; exact t1_2.1)) rfl (fun ok => doP26_is ok rfl rfl rfl (spec_setid HE6.out.kf hwho rfl rfl hU1.1 hU1.2 hgK)))
  clear hwho
  go_upto_region 8 with (go_at_call 6; refine HA3.out.mono ?_; rintro e8 w8 ⟨s3, x3, g', ec, a3, b3, rfl, ⟨rfl, a', cap', hcap, rfl, rfl, rfl⟩, hel, hgc⟩; have hst := ans_new w8 0 a3 b3; have HE8 := Lib.hid hel; have HG8 := Lib.hid hgc; have HCP := Lib.hid hcap; clear hel hgc hcap)
  clear hst HA3 HE6 a21
  generalize w8.alloc (.cells (ansV 0 a3 b3 (.slice none 0 0)) 33) = w9 at *
  generalize w8.heap.size = g3 at *
  have a21 : w9.cell? ⟨g2, 1, none⟩ = some (.int .i64 2) := by rw [(HE8.out.rows (g2, ansV 0 2 0 (.slice none 0 0)) (by simp)).1.cell]; rfl
  obtain ⟨cp3, hwho⟩ := HQ.out.1.whoU HG8.out hU1 a' cap' HCP.out
  obtain ⟨pv, hn1⟩ := HF.out.1.n1
  have hMr := may_rootN HF.out.1.k HF.out.1.m0 HF.out.1.u HF.out.1.g hU1 a' cap' HCP.out
  have hMf := may_fileN (n := x3.nd 1) (M := m) (by rw [hn1]) hm1 (by rw [hn1]) (by rw [hn1]) hU1 a' cap' HCP.out wr
  have HFR : Hid ((∃ i, i < 8 ∧ (IdTo s2 2 U a' cap').fd (2 * 8 + i) = 0) ∧ (∃ i, i < 32 ∧ ((IdTo s2 2 U a' cap').fs i).n = 0)) := Lib.hid ⟨⟨if j = 0 then 1 else 0, by split <;> omega, HQ.out.1.fd _ (by split <;> omega) (by split <;> omega)⟩, ⟨if k0 = 0 then 1 else 0, by split <;> omega, HQ.out.1.fs _ (by split <;> omega) (by split <;> omega)⟩⟩
  have HAW : Hid (Awake (IdTo s2 2 U a' cap') 2) := Lib.hid ((calm_id HQ.out.1.c2).awake (by decide) (by decide) (by show (s2.t 2).st = 1; rw [HQ.out.1.t]; exact t1_2.1))
  have HWH := Lib.hid hwho
  have HHH : Hid (x3.nh < 1000 ∧ hcn (x3.held 2) < 1000) := Lib.hid ⟨by rw [HF.out.2.1, HRT.out.2.2.1]; decide, by rw [HF.out.2.2, HRT.out.2.2.2]; decide⟩
  have HGG := Lib.hid (And.intro HQ.out.2.2 hgF)
  have HFF := Lib.hid HF.out.1
  clear hwho hn1 HF HQ HRT HCP
  cases hok : okF m wr
  · rw [hok] at hMf
    cases wr
    · skip
      go_upto_region 11 with fail
      have HA4 := Lib.hid (HE8.out.ask (p := 2) (A := callF 5 1 0 0) HAW.out rfl (fun ok => doD_is ok rfl rfl rfl (descO_is ok rfl rfl rfl (spec_openX HE8.out.kf HWH.out (by decide) HFF.out rfl rfl rfl rfl rfl (by decide) hMr hMf))))
      clear HE8
      go_upto_region 12 with (go_at_call 6; refine HA4.out.mono ?_; rintro e10 w10 ⟨s4, x4, g4', ed, a4, b4, rfl, ⟨rfl, rfl, rfl, rfl⟩, hel, hgc⟩; have hst := ans_new w10 7 a4 b4; have HE10 := Lib.hid hel; have HG10 := Lib.hid hgc; clear hel hgc)
      clear hst HA4 a21
      generalize w10.alloc (.cells (ansV 7 a4 b4 (.slice none 0 0)) 33) = w11 at *
      generalize w10.heap.size = g4 at *
      have a21 : w11.cell? ⟨g2, 1, none⟩ = some (.int .i64 2) := by rw [(HE10.out.rows (g2, ansV 0 2 0 (.slice none 0 0)) (by simp)).1.cell]; rfl
      have q := HWH.out
      have aw := HAW.out
      have HA5 := Lib.hid (HE10.out.ask (p := 2) (A := callA 26 0 0 0) ⟨aw.p1, aw.p16, aw.lv, aw.sl, aw.sg⟩ rfl (fun ok => doP26_is ok rfl rfl rfl (spec_setidX HE10.out.kf ⟨q.p16, q.cr, q.wd, q.mt, HG10.out, q.hc, q.c1, q.c2, q.hU, q.hK⟩ rfl rfl hU1.1 hU1.2)))
      clear q aw HE10
      go_upto_region 13 with (go_at_call 6; refine HA5.out.mono ?_; rintro e12 w12 ⟨s5, x5, g5', ee, a5, b5', rfl, rfl, hel, -⟩; have hst := ans_new w12 7 a5 b5'; have HE12 := Lib.hid hel; clear hel)
      clear hst HA5 a21
      generalize w12.alloc (.cells (ansV 7 a5 b5' (.slice none 0 0)) 33) = w13 at *
      generalize w12.heap.size = g5 at *
      have r1 : w13.cell? ⟨g1, 0, none⟩ = some (.int .i64 0) := by rw [(HE12.out.rows (g1, ansV 0 a1 b1 (.slice none 0 0)) (by simp)).1.cell]; rfl
      have r2 : w13.cell? ⟨g2, 0, none⟩ = some (.int .i64 0) := by rw [(HE12.out.rows (g2, ansV 0 2 0 (.slice none 0 0)) (by simp)).1.cell]; rfl
      have r3 : w13.cell? ⟨g3, 0, none⟩ = some (.int .i64 0) := by rw [(HE12.out.rows (g3, ansV 0 a3 b3 (.slice none 0 0)) (by simp)).1.cell]; rfl
      have r4 : w13.cell? ⟨g4, 0, none⟩ = some (.int .i64 7) := by rw [(HE12.out.rows (g4, ansV 7 a4 b4 (.slice none 0 0)) (by simp)).1.cell]; rfl
      have r5 : w13.cell? ⟨g5, 0, none⟩ = some (.int .i64 7) := by rw [(HE12.out.rows (g5, ansV 7 a5 b5' (.slice none 0 0)) (by simp)).1.cell]; rfl
      go_upto_region 14 with fail
      have hv : (bits .and .i64 ((m : Int) / 8) 4 != 0) = false := by rw [← okF_4 hm1]; exact hok
      rw [hv]
      have hal := Go.Joins.below_alloc1 w13 (.cells #[.int .i64 0, .int .i64 0, .int .i64 0] 27)
      have r4' := (hal.cell (p := ⟨g4, 0, none⟩) (World.block_lt_of_cell? w13 _ r4)).trans r4
      have r5' := (hal.cell (p := ⟨g5, 0, none⟩) (World.block_lt_of_cell? w13 _ r5)).trans r5
      have HG := Lib.hid (good3_is w13)
      have HBB := Lib.hid (HE12.out.hb.trans (hal.mono HE12.out.hb.size))
      clear hal HE12
      go_wp2_with (go_at_call 7; refine HG.out.mono ?_; rintro e18 w18 ⟨rfl, rfl⟩)
      go_ret
      exact ⟨rfl, HBB.out⟩
    · skip
      go_upto_region 11 with fail
      have HA4 := Lib.hid (HE8.out.ask (p := 2) (A := callF 5 2 0 0) HAW.out rfl (fun ok => doD_is ok rfl rfl rfl (descO_is ok rfl rfl rfl (spec_openX HE8.out.kf HWH.out (by decide) HFF.out rfl rfl rfl rfl rfl (by decide) hMr hMf))))
      clear HE8
      go_upto_region 12 with (go_at_call 6; refine HA4.out.mono ?_; rintro e10 w10 ⟨s4, x4, g4', ed, a4, b4, rfl, ⟨rfl, rfl, rfl, rfl⟩, hel, hgc⟩; have hst := ans_new w10 7 a4 b4; have HE10 := Lib.hid hel; have HG10 := Lib.hid hgc; clear hel hgc)
      clear hst HA4 a21
      generalize w10.alloc (.cells (ansV 7 a4 b4 (.slice none 0 0)) 33) = w11 at *
      generalize w10.heap.size = g4 at *
      have a21 : w11.cell? ⟨g2, 1, none⟩ = some (.int .i64 2) := by rw [(HE10.out.rows (g2, ansV 0 2 0 (.slice none 0 0)) (by simp)).1.cell]; rfl
      have q := HWH.out
      have aw := HAW.out
      have HA5 := Lib.hid (HE10.out.ask (p := 2) (A := callA 26 0 0 0) ⟨aw.p1, aw.p16, aw.lv, aw.sl, aw.sg⟩ rfl (fun ok => doP26_is ok rfl rfl rfl (spec_setidX HE10.out.kf ⟨q.p16, q.cr, q.wd, q.mt, HG10.out, q.hc, q.c1, q.c2, q.hU, q.hK⟩ rfl rfl hU1.1 hU1.2)))
      clear q aw HE10
      go_upto_region 13 with (go_at_call 6; refine HA5.out.mono ?_; rintro e12 w12 ⟨s5, x5, g5', ee, a5, b5', rfl, rfl, hel, -⟩; have hst := ans_new w12 7 a5 b5'; have HE12 := Lib.hid hel; clear hel)
      clear hst HA5 a21
      generalize w12.alloc (.cells (ansV 7 a5 b5' (.slice none 0 0)) 33) = w13 at *
      generalize w12.heap.size = g5 at *
      have r1 : w13.cell? ⟨g1, 0, none⟩ = some (.int .i64 0) := by rw [(HE12.out.rows (g1, ansV 0 a1 b1 (.slice none 0 0)) (by simp)).1.cell]; rfl
      have r2 : w13.cell? ⟨g2, 0, none⟩ = some (.int .i64 0) := by rw [(HE12.out.rows (g2, ansV 0 2 0 (.slice none 0 0)) (by simp)).1.cell]; rfl
      have r3 : w13.cell? ⟨g3, 0, none⟩ = some (.int .i64 0) := by rw [(HE12.out.rows (g3, ansV 0 a3 b3 (.slice none 0 0)) (by simp)).1.cell]; rfl
      have r4 : w13.cell? ⟨g4, 0, none⟩ = some (.int .i64 7) := by rw [(HE12.out.rows (g4, ansV 7 a4 b4 (.slice none 0 0)) (by simp)).1.cell]; rfl
      have r5 : w13.cell? ⟨g5, 0, none⟩ = some (.int .i64 7) := by rw [(HE12.out.rows (g5, ansV 7 a5 b5' (.slice none 0 0)) (by simp)).1.cell]; rfl
      go_upto_region 14 with fail
      have hv : (bits .and .i64 ((m : Int) / 8) 2 != 0) = false := by rw [← okF_2 hm1]; exact hok
      rw [hv]
      have hal := Go.Joins.below_alloc1 w13 (.cells #[.int .i64 0, .int .i64 0, .int .i64 0] 27)
      have r4' := (hal.cell (p := ⟨g4, 0, none⟩) (World.block_lt_of_cell? w13 _ r4)).trans r4
      have r5' := (hal.cell (p := ⟨g5, 0, none⟩) (World.block_lt_of_cell? w13 _ r5)).trans r5
      have HG := Lib.hid (good3_is w13)
      have HBB := Lib.hid (HE12.out.hb.trans (hal.mono HE12.out.hb.size))
      clear hal HE12
      go_wp2_with (go_at_call 7; refine HG.out.mono ?_; rintro e18 w18 ⟨rfl, rfl⟩)
      go_ret
      exact ⟨rfl, HBB.out⟩
  · rw [hok] at hMf
    cases wr
    · skip
      go_upto_region 11 with fail
      have HA4 := Lib.hid (HE8.out.ask (p := 2) (A := callF 5 1 0 0) HAW.out rfl (fun ok => doD_is ok rfl rfl rfl (descO_is ok rfl rfl rfl (spec_openF HE8.out.kf HWH.out (by decide) HFF.out rfl rfl rfl rfl rfl (by decide) hMr hMf HHH.out HFR.out.1 HFR.out.2 HGG.out.1 HGG.out.2))))
      clear HE8
      go_upto_region 12 with (go_at_call 6; refine HA4.out.mono ?_; rintro e10 w10 ⟨s4, x4, g4', ed, a4, b4, rfl, ⟨rfl, j4, k4, -, -, rfl, rfl, rfl⟩, hel, hgc⟩; have hst := ans_new w10 0 a4 b4; have HE10 := Lib.hid hel; have HG10 := Lib.hid hgc; clear hel hgc)
      clear hst HA4 a21
      generalize w10.alloc (.cells (ansV 0 a4 b4 (.slice none 0 0)) 33) = w11 at *
      generalize w10.heap.size = g4 at *
      have a21 : w11.cell? ⟨g2, 1, none⟩ = some (.int .i64 2) := by rw [(HE10.out.rows (g2, ansV 0 2 0 (.slice none 0 0)) (by simp)).1.cell]; rfl
      have q := HWH.out
      have aw := HAW.out
      have HA5 := Lib.hid (HE10.out.ask (p := 2) (A := callA 26 0 0 0) ⟨aw.p1, aw.p16, aw.lv, aw.sl, aw.sg⟩ rfl (fun ok => doP26_is ok rfl rfl rfl (spec_setidX HE10.out.kf ⟨q.p16, q.cr, q.wd, q.mt, HG10.out, q.hc, q.c1, q.c2, q.hU, q.hK⟩ rfl rfl hU1.1 hU1.2)))
      clear q aw HE10
      go_upto_region 13 with (go_at_call 6; refine HA5.out.mono ?_; rintro e12 w12 ⟨s5, x5, g5', ee, a5, b5', rfl, rfl, hel, -⟩; have hst := ans_new w12 7 a5 b5'; have HE12 := Lib.hid hel; clear hel)
      clear hst HA5 a21
      generalize w12.alloc (.cells (ansV 7 a5 b5' (.slice none 0 0)) 33) = w13 at *
      generalize w12.heap.size = g5 at *
      have r1 : w13.cell? ⟨g1, 0, none⟩ = some (.int .i64 0) := by rw [(HE12.out.rows (g1, ansV 0 a1 b1 (.slice none 0 0)) (by simp)).1.cell]; rfl
      have r2 : w13.cell? ⟨g2, 0, none⟩ = some (.int .i64 0) := by rw [(HE12.out.rows (g2, ansV 0 2 0 (.slice none 0 0)) (by simp)).1.cell]; rfl
      have r3 : w13.cell? ⟨g3, 0, none⟩ = some (.int .i64 0) := by rw [(HE12.out.rows (g3, ansV 0 a3 b3 (.slice none 0 0)) (by simp)).1.cell]; rfl
      have r4 : w13.cell? ⟨g4, 0, none⟩ = some (.int .i64 0) := by rw [(HE12.out.rows (g4, ansV 0 a4 b4 (.slice none 0 0)) (by simp)).1.cell]; rfl
      have r5 : w13.cell? ⟨g5, 0, none⟩ = some (.int .i64 7) := by rw [(HE12.out.rows (g5, ansV 7 a5 b5' (.slice none 0 0)) (by simp)).1.cell]; rfl
      go_upto_region 14 with fail
      have hv : (bits .and .i64 ((m : Int) / 8) 4 != 0) = true := by rw [← okF_4 hm1]; exact hok
      rw [hv]
      have hal := Go.Joins.below_alloc1 w13 (.cells #[.int .i64 0, .int .i64 0, .int .i64 0] 27)
      have r4' := (hal.cell (p := ⟨g4, 0, none⟩) (World.block_lt_of_cell? w13 _ r4)).trans r4
      have r5' := (hal.cell (p := ⟨g5, 0, none⟩) (World.block_lt_of_cell? w13 _ r5)).trans r5
      have HG := Lib.hid (good3_is w13)
      have HBB := Lib.hid (HE12.out.hb.trans (hal.mono HE12.out.hb.size))
      clear hal HE12
      go_wp2_with (go_at_call 7; refine HG.out.mono ?_; rintro e18 w18 ⟨rfl, rfl⟩)
      go_ret
      exact ⟨rfl, HBB.out⟩
    · skip
      go_upto_region 11 with fail
      have HA4 := Lib.hid (HE8.out.ask (p := 2) (A := callF 5 2 0 0) HAW.out rfl (fun ok => doD_is ok rfl rfl rfl (descO_is ok rfl rfl rfl (spec_openF HE8.out.kf HWH.out (by decide) HFF.out rfl rfl rfl rfl rfl (by decide) hMr hMf HHH.out HFR.out.1 HFR.out.2 HGG.out.1 HGG.out.2))))
      clear HE8
      go_upto_region 12 with (go_at_call 6; refine HA4.out.mono ?_; rintro e10 w10 ⟨s4, x4, g4', ed, a4, b4, rfl, ⟨rfl, j4, k4, -, -, rfl, rfl, rfl⟩, hel, hgc⟩; have hst := ans_new w10 0 a4 b4; have HE10 := Lib.hid hel; have HG10 := Lib.hid hgc; clear hel hgc)
      clear hst HA4 a21
      generalize w10.alloc (.cells (ansV 0 a4 b4 (.slice none 0 0)) 33) = w11 at *
      generalize w10.heap.size = g4 at *
      have a21 : w11.cell? ⟨g2, 1, none⟩ = some (.int .i64 2) := by rw [(HE10.out.rows (g2, ansV 0 2 0 (.slice none 0 0)) (by simp)).1.cell]; rfl
      have q := HWH.out
      have aw := HAW.out
      have HA5 := Lib.hid (HE10.out.ask (p := 2) (A := callA 26 0 0 0) ⟨aw.p1, aw.p16, aw.lv, aw.sl, aw.sg⟩ rfl (fun ok => doP26_is ok rfl rfl rfl (spec_setidX HE10.out.kf ⟨q.p16, q.cr, q.wd, q.mt, HG10.out, q.hc, q.c1, q.c2, q.hU, q.hK⟩ rfl rfl hU1.1 hU1.2)))
      clear q aw HE10
      go_upto_region 13 with (go_at_call 6; refine HA5.out.mono ?_; rintro e12 w12 ⟨s5, x5, g5', ee, a5, b5', rfl, rfl, hel, -⟩; have hst := ans_new w12 7 a5 b5'; have HE12 := Lib.hid hel; clear hel)
      clear hst HA5 a21
      generalize w12.alloc (.cells (ansV 7 a5 b5' (.slice none 0 0)) 33) = w13 at *
      generalize w12.heap.size = g5 at *
      have r1 : w13.cell? ⟨g1, 0, none⟩ = some (.int .i64 0) := by rw [(HE12.out.rows (g1, ansV 0 a1 b1 (.slice none 0 0)) (by simp)).1.cell]; rfl
      have r2 : w13.cell? ⟨g2, 0, none⟩ = some (.int .i64 0) := by rw [(HE12.out.rows (g2, ansV 0 2 0 (.slice none 0 0)) (by simp)).1.cell]; rfl
      have r3 : w13.cell? ⟨g3, 0, none⟩ = some (.int .i64 0) := by rw [(HE12.out.rows (g3, ansV 0 a3 b3 (.slice none 0 0)) (by simp)).1.cell]; rfl
      have r4 : w13.cell? ⟨g4, 0, none⟩ = some (.int .i64 0) := by rw [(HE12.out.rows (g4, ansV 0 a4 b4 (.slice none 0 0)) (by simp)).1.cell]; rfl
      have r5 : w13.cell? ⟨g5, 0, none⟩ = some (.int .i64 7) := by rw [(HE12.out.rows (g5, ansV 7 a5 b5' (.slice none 0 0)) (by simp)).1.cell]; rfl
      go_upto_region 14 with fail
      have hv : (bits .and .i64 ((m : Int) / 8) 2 != 0) = true := by rw [← okF_2 hm1]; exact hok
      rw [hv]
      have hal := Go.Joins.below_alloc1 w13 (.cells #[.int .i64 0, .int .i64 0, .int .i64 0] 27)
      have r4' := (hal.cell (p := ⟨g4, 0, none⟩) (World.block_lt_of_cell? w13 _ r4)).trans r4
      have r5' := (hal.cell (p := ⟨g5, 0, none⟩) (World.block_lt_of_cell? w13 _ r5)).trans r5
      have HG := Lib.hid (good3_is w13)
      have HBB := Lib.hid (HE12.out.hb.trans (hal.mono HE12.out.hb.size))
      clear hal HE12
      go_wp2_with (go_at_call 7; refine HG.out.mono ?_; rintro e18 w18 ⟨rfl, rfl⟩)
      go_ret
      exact ⟨rfl, HBB.out⟩
end
end Go.Proofs.YthioadiiedlmfaaGreatDoor
