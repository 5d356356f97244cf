/- The walk of ringkeep5.IrqTaken. -/
import Derived.Test.YtddfgdodpjmjfaaIrqAll
import Derived.WalkSmall
namespace Go.Proofs.Ytddfgdodpjmjfaa.IrqLaw
open Go.RowKit
set_option linter.unusedVariables false

theorem Has.c2 {w : World} {b : Nat} {x y z : Value} {l : List Value} (h : Has w b (x :: y :: z :: l)) : w.cell? ⟨b, 2, none⟩ = some z := h.2 2 z rfl
theorem Has.c3 {w : World} {b : Nat} {x y z t : Value} {l : List Value} (h : Has w b (x :: y :: z :: t :: l)) : w.cell? ⟨b, 3, none⟩ = some t := h.2 3 t rfl

set_option maxRecDepth 100000 in
set_option maxHeartbeats 2000000 in
theorem irqtaken_any (l : Ln) (k0 : Int) (w : World) :
    Calls Try.prog 9 #[.agg #[.int .i64 l.e, .int .i64 l.u, .int .i64 l.m, .int .i64 l.p], .int .i64 k0] w fun e w' => e = .returned (.bool true) ∧ Below w.heap.size w w' := by
  have hk0 : 0 ≤ k0 % 8 := Int.emod_nonneg _ (by decide)
  have hk1 : k0 % 8 < 8 := Int.emod_lt_of_pos _ (by decide)
  have hlaw := taken_law l (k0 % 8) hk0 hk1
  obtain ⟨k, hk⟩ : ∃ k, k = k0 % 8 := ⟨_, rfl⟩
  rw [← hk] at hk0 hk1 hlaw
  have HK := Lib.hid hk
  clear hk
  rcases hlaw with ⟨h1, h2⟩ | ⟨h1, h2, h3, n, c, hc, hn, n0, nk, htk, hp, hu, hd⟩
  · have hne : ((lineR l k).2 != 0) = true := by simpa using h1
    have H2 := Lib.hid h2
    obtain ⟨en, hen⟩ : ∃ q, q = (lineR l k).2 := ⟨_, rfl⟩
    rw [← hen] at hne
    have HE := Lib.hid hen
    clear h1 h2 hen
    go_enter Try.func9, Try.ntmps9
    go_wp2_with fail
    refine (lines_any _).mono ?_
    rintro e w1 ⟨rfl, hb1⟩
    have HL := (has_new w [.int .i64 l.e, .int .i64 l.u, .int .i64 l.m, .int .i64 l.p] 57).keep hb1
    have HW := ((Below.refl _ _).alloc (Nat.le_refl _) _).trans (hb1.mono (B' := w.heap.size) (by simp))
    clear hb1
    have l0 := HL.c0
    have l1 := HL.c1
    have l2 := Has.c2 HL
    have l3 := Has.c3 HL
    go_wp2_with fail
    refine (within_any _ _ _ (by decide) (by decide)).mono ?_
    rintro e w2 ⟨rfl, rfl⟩
    rw [← HK.out]
    go_wp2_with fail
    refine (set_any l k false _).mono ?_
    rintro e w3 ⟨rfl, hb3⟩
    rw [H2.out, ← HE.out]
    have HW3 := HW.trans (hb3.mono HW.size)
    clear hb3 HW HL l0 l1 l2 l3
    go_wp2
    go_ret
    exact ⟨rfl, HW3.alloc HW3.size _⟩
  · obtain ⟨a, ha⟩ : ∃ a, a = setR l k false := ⟨_, rfl⟩
    rw [← ha] at h2 h3 hc
    obtain ⟨b, hb⟩ : ∃ b, b = setR a k true := ⟨_, rfl⟩
    rw [← hb] at h3 hc
    obtain ⟨d, hdd⟩ : ∃ d, d = takeR c := ⟨_, rfl⟩
    rw [← hdd] at hp hu hd
    have H1 := Lib.hid h1
    have H2 := Lib.hid h2
    have H3 := Lib.hid h3
    have HA := Lib.hid ha
    have HB := Lib.hid hb
    have HC := Lib.hid hc
    have HN := Lib.hid hn
    have HTK := Lib.hid htk
    have HD := Lib.hid hdd
    have HP := Lib.hid hp
    have HU := Lib.hid hu
    have HDC := Lib.hid hd
    clear h1 h2 h3 ha hb hc hn htk hdd hp hu hd
    go_enter Try.func9, Try.ntmps9
    go_wp2_with fail
    refine (lines_any _).mono ?_
    rintro e w1 ⟨rfl, hb1⟩
    have HLc := (has_new w [.int .i64 l.e, .int .i64 l.u, .int .i64 l.m, .int .i64 l.p] 57).keep hb1
    have HW := ((Below.refl _ _).alloc (Nat.le_refl _) _).trans (hb1.mono (B' := w.heap.size) (by simp))
    clear hb1
    go_wp2_with fail
    refine (within_any _ _ _ (by decide) (by decide)).mono ?_
    rintro e w2 ⟨rfl, rfl⟩
    rw [← HK.out]
    have l0 := HLc.c0
    have l1 := HLc.c1
    have l2 := Has.c2 HLc
    have l3 := Has.c3 HLc
    go_wp2_with fail
    clear l0 l1 l2 l3
    refine (set_any l k false _).mono ?_
    rintro e w3 ⟨rfl, hb3⟩
    rw [← HA.out, H1.out]
    replace HW := HW.trans (hb3.mono HW.size)
    replace HLc := HLc.keep hb3
    clear hb3
    go_wp2_with fail
    refine (set_any a k true _).mono ?_
    rintro e w4 ⟨rfl, hb4⟩
    rw [← HB.out, H2.out]
    replace HW := (HW.alloc HW.size _).trans (hb4.mono (by have := HW.size; simp; omega))
    replace HLc := (HLc.alloc _).keep hb4
    clear hb4
    go_wp2_with fail
    refine (mask_any b k false _).mono ?_
    rintro e w5 ⟨rfl, hb5⟩
    rw [← HC.out, H3.out]
    replace HW := (HW.alloc HW.size _).trans (hb5.mono (by have := HW.size; simp; omega))
    replace HLc := (HLc.alloc _).keep hb5
    clear hb5
    have HCc := has_new w5 [.int .i64 c.e, .int .i64 c.u, .int .i64 c.m, .int .i64 c.p] 57
    go_wp2_with fail
    refine (next_any c _).mono ?_
    rintro e w6 ⟨rfl, hb6⟩
    rw [HN.out]
    replace HW := (HW.alloc HW.size _).trans (hb6.mono (by have := HW.size; simp; omega))
    replace HLc := (HLc.alloc _).keep hb6
    replace HCc := HCc.keep hb6
    clear hb6
    have l0 := HCc.c0
    have l1 := HCc.c1
    have l2 := Has.c2 HCc
    have l3 := Has.c3 HCc
    go_wp2_with fail
    clear l0 l1 l2 l3
    refine (take_any c _).mono ?_
    rintro e w7 ⟨rfl, hb7⟩
    rw [← HD.out, HTK.out, HN.out]
    replace HW := HW.trans (hb7.mono HW.size)
    replace HLc := HLc.keep hb7
    replace HCc := HCc.keep hb7
    clear hb7
    have HDc := has_new w7 [.int .i64 d.e, .int .i64 d.u, .int .i64 d.m, .int .i64 d.p] 57
    go_wp2_with fail
    refine (good_any _ 4 [0, 0, 0, 0] _ (by simp) ?_).mono ?_
    · intro i hi
      match i, hi with
      | 0, _ => simp
      | 1, _ => simp
      | 2, _ => simp
      | 3, _ => simp
    rintro e w8 ⟨rfl, rfl⟩
    replace HLc := (HLc.alloc (.cells #[.int .i64 d.e, .int .i64 d.u, .int .i64 d.m, .int .i64 d.p] 57)).alloc (.cells #[.int .i64 0, .int .i64 0, .int .i64 0, .int .i64 0] 26)
    replace HCc := (HCc.alloc (.cells #[.int .i64 d.e, .int .i64 d.u, .int .i64 d.m, .int .i64 d.p] 57)).alloc (.cells #[.int .i64 0, .int .i64 0, .int .i64 0, .int .i64 0] 26)
    replace HDc := HDc.alloc (.cells #[.int .i64 0, .int .i64 0, .int .i64 0, .int .i64 0] 26)
    replace HW := (HW.alloc HW.size (.cells #[.int .i64 d.e, .int .i64 d.u, .int .i64 d.m, .int .i64 d.p] 57)).alloc (by have := HW.size; simp; omega) (.cells #[.int .i64 0, .int .i64 0, .int .i64 0, .int .i64 0] 26)
    have a0 := HLc.c0
    have l0 := HCc.c0
    have l1 := HCc.c1
    have l2 := Has.c2 HCc
    have l3 := Has.c3 HCc
    have m0 := HDc.c0
    have m1 := HDc.c1
    have m2 := Has.c2 HDc
    have m3 := Has.c3 HDc
    have hnn : (n != n) = false := by simp
    by_cases he : bits .and .i64 (l.e / 2 ^ n.toNat) 1 = 0
    · have heb : (bits .and .i64 (l.e / 2 ^ n.toNat) 1 == 0) = true := by simp [he]
      obtain rfl := HDC.out he
      clear he
      go_wp2
      go_ret
      exact ⟨by simp, HW⟩
    · have heb : (bits .and .i64 (l.e / 2 ^ n.toNat) 1 == 0) = false := by simp [he]
      clear he
      have hp2 : (d.p == bits .andNot .i64 c.p (2 ^ n.toNat)) = true := by rw [HP.out]; simp
      have hu2 : (d.u == c.u) = true := by rw [HU.out]; simp
      obtain ⟨pw0, pw1⟩ := pow_lt n (by omega)
      go_wp2
      go_quiet (fail)
      go_wp2
      go_ret
      exact ⟨by simp, by first | exact HW | exact below_drewN HW _⟩
end Go.Proofs.Ytddfgdodpjmjfaa.IrqLaw
