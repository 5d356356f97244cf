/- The walks of package mode: bits, wanted, over, May. -/
import Derived.Test.YtjkephmfpoekgaaDoorCredIn
import Derived.Deep.RegionHeld3
namespace Go.Proofs.YtjkephmfpoekgaaDoor.CredLaw
open Go.RowKit
set_option linter.unusedVariables false

def wantedN (k : Nat) : Nat := (k % 2) * 4 + (k / 2 % 2) * 2 + k / 4 % 2
def overN (d r w : Bool) : Nat := (if r then (if d then 5 else 4) else 0) + (if w then 2 else 0)
def bitsN (s : S) (c : C) : Nat := if c.user = s.user then s.mode.toNat / 64 else if inC c s.group then s.mode.toNat / 8 % 8 else s.mode.toNat % 8
def capB (c : C) (k : Int) : Bool := bits .and .i64 c.caps k != 0
def mayB (s : S) (c : C) (k : Nat) : Bool := less (wantedN k) (bitsN s c ||| overN (s.kind == 2) (capB c 1) (capB c 2)) == 0

theorem wanted_any (k : Nat) (w : World) (h7 : k < 8) : Calls Tryd.prog 52 #[.int .i64 k] w fun e w' => e = .returned (.int .i64 (wantedN k)) ∧ w = w' := by
  have hk : k = 0 ∨ k = 1 ∨ k = 2 ∨ k = 3 ∨ k = 4 ∨ k = 5 ∨ k = 6 ∨ k = 7 := by omega
  go_enter Tryd.func52, Tryd.ntmps52
  go_wp2
  go_ret
  refine ⟨ret_int ?_, rfl⟩
  rcases hk with rfl | rfl | rfl | rfl | rfl | rfl | rfl | rfl <;> decide +kernel
theorem over_any (s : S) (c : C) (m : Value) (w : World) : Calls Tryd.prog 54 #[encS s, encC c m] w fun e w' => e = .returned (.int .i64 (overN (s.kind == 2) (capB c 1) (capB c 2))) ∧ Below w.heap.size w w' := by
  have hR : Hid (capB c 1 = (bits .and .i64 c.caps 1 != 0)) := rfl
  have hW : Hid (capB c 2 = (bits .and .i64 c.caps 2 != 0)) := rfl
  simp only [encS, encC]
  go_enter Tryd.func54, Tryd.ntmps54
  go_wp2
  all_goals
    go_ret
    refine ⟨ret_int ?_, Go.Joins.below_alloc2 _ _ _⟩
    rw [hR.out, hW.out]
    simp only [*]
    rfl
theorem bits_is {w : World} {v : Value} {c : C} (s : S) (h : IsC w v c) (hc : chkC c = 0) (hs : fineS s) : Calls Tryd.prog 53 #[encS s, v] w fun e w' => e = .returned (.int .i64 (bitsN s c)) ∧ Below w.heap.size w w' := by
  obtain ⟨m0, m1, u0, u1, g0, g1⟩ := hs
  obtain ⟨m, rfl, hm⟩ := h
  have hA : Below w.heap.size w ((w.alloc (.cells #[.int .i64 s.kind, .int .i64 s.mode, .int .i64 s.user, .int .i64 s.group, .int .i64 s.size, .int .i64 s.links] 36)).alloc (.cells #[.int .i64 c.user, .int .i64 c.group, m, .int .i64 c.caps, .int .i64 c.level, .int .i64 c.kind] 27)) := Go.Joins.below_alloc2 _ _ _
  have hin := in_is (c := c) s.group ⟨m, rfl, hm.keep hA⟩ hc
  obtain ⟨M, hM⟩ : ∃ M : Nat, s.mode = M := ⟨s.mode.toNat, by omega⟩
  have HIN := Lib.hid hin
  have HA := Lib.hid hA
  have hMode : ∀ o, ((w.alloc (.cells #[.int .i64 s.kind, .int .i64 s.mode, .int .i64 s.user, .int .i64 s.group, .int .i64 s.size, .int .i64 s.links] 36)).alloc o).cell? ⟨w.heap.size, 1, none⟩ = some (.int .i64 s.mode) := fun o => ((has_new w [.int .i64 s.kind, .int .i64 s.mode, .int .i64 s.user, .int .i64 s.group, .int .i64 s.size, .int .i64 s.links] 36).alloc o).2 1 _ rfl
  have HMO := Lib.hid hMode
  clear hin hA hm hMode
  by_cases hu : c.user = s.user
  · have hb : (c.user == s.user) = true := by simp [hu]
    have HB := Lib.hid (show (bitsN s c : Int) = s.mode / 64 by rw [bitsN, if_pos hu, hM]; simp)
    clear hu hM
    simp only [encS, encC]
    go_enter Tryd.func53, Tryd.ntmps53
    go_wp2
    go_ret
    exact ⟨ret_int HB.out.symm, HA.out⟩
  · have hb : (c.user == s.user) = false := by simp [hu]
    have HU := Lib.hid hu
    have HM := Lib.hid hM
    clear hu hM
    have hsz : w.heap.size < ((w.alloc (.cells #[.int .i64 s.kind, .int .i64 s.mode, .int .i64 s.user, .int .i64 s.group, .int .i64 s.size, .int .i64 s.links] 36)).alloc (.cells #[.int .i64 c.user, .int .i64 c.group, m, .int .i64 c.caps, .int .i64 c.level, .int .i64 c.kind] 27)).heap.size := by simp; omega
    simp only [encS, encC] at HIN ⊢
    cases hi : inC c s.group
    · have HI := Lib.hid hi
      clear hi
      go_enter Tryd.func53, Tryd.ntmps53
      go_wp2_with fail
      refine HIN.out.mono ?_
      rintro e w1 ⟨rfl, hb1⟩
      rw [HI.out]
      have c1 := (hb1.cell (p := ⟨w.heap.size, 1, none⟩) hsz).trans (HMO.out _)
      have hb2 := HA.out.trans (hb1.mono HA.out.size)
      clear hb1
      go_wp2
      go_ret
      refine ⟨ret_int ?_, hb2⟩
      rw [bitsN, if_neg HU.out, HI.out, HM.out, show (7 : Int) = ((7 : Nat) : Int) from rfl, i64_and M 7 (by have := HM.out; omega) (by decide)]
      simp only [Int.toNat_natCast]
      rw [Nat.and_two_pow_sub_one_eq_mod M 3]
      rfl
    · have HI := Lib.hid hi
      clear hi
      go_enter Tryd.func53, Tryd.ntmps53
      go_wp2_with fail
      refine HIN.out.mono ?_
      rintro e w1 ⟨rfl, hb1⟩
      rw [HI.out]
      have c1 := (hb1.cell (p := ⟨w.heap.size, 1, none⟩) hsz).trans (HMO.out _)
      have hb2 := HA.out.trans (hb1.mono HA.out.size)
      clear hb1
      go_wp2
      go_ret
      refine ⟨ret_int ?_, hb2⟩
      rw [bitsN, if_neg HU.out, HI.out, HM.out, show ((M : Int) / 8) = ((M / 8 : Nat) : Int) by simp, show (7 : Int) = ((7 : Nat) : Int) from rfl, i64_and (M / 8) 7 (by have := HM.out; omega) (by decide)]
      simp only [Int.toNat_natCast]
      rw [Nat.and_two_pow_sub_one_eq_mod (M / 8) 3]
      rfl

def mayR (s : S) (c : C) (want : Int) : Bool × Int :=
  if chkC c = 0 then (if fineS s then (if 0 ≤ want ∧ want ≤ 7 then (mayB s c want.toNat, 0) else (false, 1)) else (false, 1)) else (false, chkC c)

theorem bitsN_lt {s : S} (c : C) (h : fineS s) : bitsN s c < 8 := by
  obtain ⟨m0, m1, _⟩ := h
  unfold bitsN
  split
  · omega
  · split <;> omega
theorem overN_lt (d r w : Bool) : overN d r w < 8 := by cases d <;> cases r <;> cases w <;> decide
theorem wantedN_lt (k : Nat) : wantedN k < 8 := by unfold wantedN; omega
theorem may_bits {s : S} (c : C) (h : fineS s) (k : Nat) :
    (bits .andNot .i64 (wantedN k) (bits .or .i64 (bitsN s c) (overN (s.kind == 2) (capB c 1) (capB c 2))) == 0) = mayB s c k := by
  have h1 := bitsN_lt c h
  have h2 := overN_lt (s.kind == 2) (capB c 1) (capB c 2)
  have h3 := wantedN_lt k
  have h4 := or_lt _ _ 3 h1 h2
  rw [i64_or _ _ (by omega) (by omega), i64_andNot _ _ (by omega) (by omega)]
  unfold mayB
  generalize less (wantedN k) (bitsN s c ||| overN (s.kind == 2) (capB c 1) (capB c 2)) = z
  cases z with
  | zero => rfl
  | succ z => simp; omega

set_option maxRecDepth 100000 in
set_option maxHeartbeats 2000000 in
theorem may_is {w : World} {v : Value} {c : C} (s : S) (want : Int) (h : IsC w v c) :
    Calls Tryd.prog 37 #[encS s, v, .int .i64 want] w fun e w' => e = .returned (.tuple #[.bool (mayR s c want).1, .int .i64 (mayR s c want).2]) ∧ Below w.heap.size w w' := by
  obtain ⟨m, rfl, hm⟩ := h
  have hA : Below w.heap.size w ((w.alloc (.cells #[.int .i64 s.kind, .int .i64 s.mode, .int .i64 s.user, .int .i64 s.group, .int .i64 s.size, .int .i64 s.links] 36)).alloc (.cells #[.int .i64 c.user, .int .i64 c.group, m, .int .i64 c.caps, .int .i64 c.level, .int .i64 c.kind] 27)) := Go.Joins.below_alloc2 _ _ _
  have hcheck := check_is (c := c) ⟨m, rfl, hm.keep hA⟩
  have HA := Lib.hid hA
  have HK := Lib.hid hcheck
  have HM := Lib.hid hm
  clear hA hcheck hm
  simp only [encC] at HK ⊢
  by_cases hc : chkC c = 0
  · have hce : (chkC c != 0) = false := by simp [hc]
    have HC := Lib.hid hc
    clear hc
    have hS0 : Has ((w.alloc (.cells #[.int .i64 s.kind, .int .i64 s.mode, .int .i64 s.user, .int .i64 s.group, .int .i64 s.size, .int .i64 s.links] 36)).alloc (.cells #[.int .i64 c.user, .int .i64 c.group, m, .int .i64 c.caps, .int .i64 c.level, .int .i64 c.kind] 27)) w.heap.size [.int .i64 s.kind, .int .i64 s.mode, .int .i64 s.user, .int .i64 s.group, .int .i64 s.size, .int .i64 s.links] := (has_new w [.int .i64 s.kind, .int .i64 s.mode, .int .i64 s.user, .int .i64 s.group, .int .i64 s.size, .int .i64 s.links] 36).alloc _
    have hC0 : Has ((w.alloc (.cells #[.int .i64 s.kind, .int .i64 s.mode, .int .i64 s.user, .int .i64 s.group, .int .i64 s.size, .int .i64 s.links] 36)).alloc (.cells #[.int .i64 c.user, .int .i64 c.group, m, .int .i64 c.caps, .int .i64 c.level, .int .i64 c.kind] 27)) (w.heap.size + 1) [.int .i64 c.user, .int .i64 c.group, m, .int .i64 c.caps, .int .i64 c.level, .int .i64 c.kind] := by
      have := has_new (w.alloc (.cells #[.int .i64 s.kind, .int .i64 s.mode, .int .i64 s.user, .int .i64 s.group, .int .i64 s.size, .int .i64 s.links] 36)) [.int .i64 c.user, .int .i64 c.group, m, .int .i64 c.caps, .int .i64 c.level, .int .i64 c.kind] 27
      simpa using this
    have HS0 := Lib.hid hS0
    have HC0 := Lib.hid hC0
    clear hS0 hC0
    by_cases hf : fineS s
    · have hse : chkS s = 0 := by rw [chkS, if_pos hf]
      have HF := Lib.hid hf
      have HSE := Lib.hid hse
      clear hf hse
      by_cases hw : 0 ≤ want ∧ want ≤ 7
      · obtain ⟨k, rfl⟩ : ∃ k : Nat, want = k := ⟨want.toNat, by omega⟩
        have hR : mayR s c k = (mayB s c k, 0) := by rw [mayR, if_pos HC.out, if_pos HF.out, if_pos hw, Int.toNat_natCast]
        have HR := Lib.hid hR
        obtain ⟨w0, w7⟩ := hw
        have hk8 : k < 8 := by omega
        have hbits := fun w' (hb : Below w.heap.size w w') => bits_is (w := w') (c := c) s ⟨m, rfl, HM.out.keep hb⟩ HC.out HF.out
        have hover := over_any s c m
        simp only [encC] at hbits hover
        have HBI := Lib.hid hbits
        have HOV := Lib.hid hover
        clear hR hbits hover
        simp only [encS] at HBI HOV ⊢
        go_enter Tryd.func37, Tryd.ntmps37
        go_wp2_with fail
        refine HK.out.mono ?_
        rintro e w1 ⟨rfl, hb1⟩
        have hS1 := HS0.out.keep hb1
        have hC1 := HC0.out.keep hb1
        have hB1 := HA.out.trans (hb1.mono HA.out.size)
        clear hb1
        have s0 := hS1.2 0 _ rfl
        have s1 := hS1.2 1 _ rfl
        have s2 := hS1.2 2 _ rfl
        have s3 := hS1.2 3 _ rfl
        have s4 := hS1.2 4 _ rfl
        have s5 := hS1.2 5 _ rfl
        go_wp2_with fail
        refine (checkS_any s _).mono ?_
        rintro e w2 ⟨rfl, hb2⟩
        rw [HSE.out]
        have hS2 := Lib.hid (hS1.keep hb2)
        have hC2 := Lib.hid (hC1.keep hb2)
        have hB2 := hB1.trans (hb2.mono hB1.size)
        clear s0 s1 s2 s3 s4 s5 hS1 hC1 hB1 hb2
        have hboth : ∀ w', Below w2.heap.size w2 w' → (Below w2.heap.size w2 w' ∧ w'.cell? ⟨w.heap.size, 0, none⟩ = some (.int .i64 s.kind) ∧ w'.cell? ⟨w.heap.size, 1, none⟩ = some (.int .i64 s.mode) ∧ w'.cell? ⟨w.heap.size, 2, none⟩ = some (.int .i64 s.user) ∧ w'.cell? ⟨w.heap.size, 3, none⟩ = some (.int .i64 s.group) ∧ w'.cell? ⟨w.heap.size, 4, none⟩ = some (.int .i64 s.size) ∧ w'.cell? ⟨w.heap.size, 5, none⟩ = some (.int .i64 s.links) ∧ w'.cell? ⟨w.heap.size + 1, 0, none⟩ = some (.int .i64 c.user) ∧ w'.cell? ⟨w.heap.size + 1, 1, none⟩ = some (.int .i64 c.group) ∧ w'.cell? ⟨w.heap.size + 1, 2, none⟩ = some m ∧ w'.cell? ⟨w.heap.size + 1, 3, none⟩ = some (.int .i64 c.caps) ∧ w'.cell? ⟨w.heap.size + 1, 4, none⟩ = some (.int .i64 c.level) ∧ w'.cell? ⟨w.heap.size + 1, 5, none⟩ = some (.int .i64 c.kind)) := fun w' hb => by
          have h1 := hS2.out.keep hb
          have h2 := hC2.out.keep hb
          exact ⟨hb, h1.2 0 _ rfl, h1.2 1 _ rfl, h1.2 2 _ rfl, h1.2 3 _ rfl, h1.2 4 _ rfl, h1.2 5 _ rfl, h2.2 0 _ rfl, h2.2 1 _ rfl, h2.2 2 _ rfl, h2.2 3 _ rfl, h2.2 4 _ rfl, h2.2 5 _ rfl⟩
        have HBO := Lib.hid hboth
        clear hboth
        go_wp2_with fail
        go_region_held3 (fun w' => Below w2.heap.size w2 w' ∧ w'.cell? ⟨w.heap.size, 0, none⟩ = some (.int .i64 s.kind) ∧ w'.cell? ⟨w.heap.size, 1, none⟩ = some (.int .i64 s.mode) ∧ w'.cell? ⟨w.heap.size, 2, none⟩ = some (.int .i64 s.user) ∧ w'.cell? ⟨w.heap.size, 3, none⟩ = some (.int .i64 s.group) ∧ w'.cell? ⟨w.heap.size, 4, none⟩ = some (.int .i64 s.size) ∧ w'.cell? ⟨w.heap.size, 5, none⟩ = some (.int .i64 s.links) ∧ w'.cell? ⟨w.heap.size + 1, 0, none⟩ = some (.int .i64 c.user) ∧ w'.cell? ⟨w.heap.size + 1, 1, none⟩ = some (.int .i64 c.group) ∧ w'.cell? ⟨w.heap.size + 1, 2, none⟩ = some m ∧ w'.cell? ⟨w.heap.size + 1, 3, none⟩ = some (.int .i64 c.caps) ∧ w'.cell? ⟨w.heap.size + 1, 4, none⟩ = some (.int .i64 c.level) ∧ w'.cell? ⟨w.heap.size + 1, 5, none⟩ = some (.int .i64 c.kind)) (first | assumption | exact HBO.out _ (Below.refl _ _).drew | go_keep)
          (first | (go_at_call 52; refine (wanted_any k _ hk8).mono ?_; rintro e w9 ⟨rfl, rfl⟩) | (go_at_call 53; refine (HBI.out _ (hB2.trans ((‹Below w2.heap.size w2 _ ∧ _›).1.mono hB2.size))).mono ?_; rintro e w9 ⟨rfl, hb9⟩; have hS := HBO.out _ ((‹Below w2.heap.size w2 _ ∧ _›).1.trans (hb9.mono (‹Below w2.heap.size w2 _ ∧ _›).1.size))) | (go_at_call 54; refine (HOV.out _).mono ?_; rintro e w9 ⟨rfl, hb9⟩; have hS := HBO.out _ ((‹Below w2.heap.size w2 _ ∧ _›).1.trans (hb9.mono (‹Below w2.heap.size w2 _ ∧ _›).1.size))))
        all_goals
          rw [may_bits c HF.out k]
          go_wp2
          go_ret2
          refine ⟨by rw [HR.out]; rfl, hB2.trans (Below.mono ?_ hB2.size)⟩
          exact (‹Below w2.heap.size w2 _ ∧ _›).1
      · have hR : mayR s c want = (false, 1) := by rw [mayR, if_pos HC.out, if_pos HF.out, if_neg hw]
        have HR := Lib.hid hR
        have hcase : want < 0 ∨ (0 ≤ want ∧ 7 < want) := by omega
        clear hR hw
        simp only [encS]
        rcases hcase with hh | hh
        all_goals
          go_enter Tryd.func37, Tryd.ntmps37
          go_wp2_with fail
          refine HK.out.mono ?_
          rintro e w1 ⟨rfl, hb1⟩
          have hS1 := HS0.out.keep hb1
          have hB1 := HA.out.trans (hb1.mono HA.out.size)
          clear hb1
          have s0 := hS1.2 0 _ rfl
          have s1 := hS1.2 1 _ rfl
          have s2 := hS1.2 2 _ rfl
          have s3 := hS1.2 3 _ rfl
          have s4 := hS1.2 4 _ rfl
          have s5 := hS1.2 5 _ rfl
          go_wp2_with fail
          refine (checkS_any s _).mono ?_
          rintro e w2 ⟨rfl, hb2⟩
          rw [HSE.out]
          go_wp2
          go_ret2
          exact ⟨by rw [HR.out]; rfl, hB1.trans (hb2.mono hB1.size)⟩
    · have hse : chkS s = 1 := by rw [chkS, if_neg hf]
      have HSE := Lib.hid hse
      have hR : mayR s c want = (false, 1) := by rw [mayR, if_pos HC.out, if_neg hf]
      have HR := Lib.hid hR
      clear hR hf hse
      simp only [encS]
      go_enter Tryd.func37, Tryd.ntmps37
      go_wp2_with fail
      refine HK.out.mono ?_
      rintro e w1 ⟨rfl, hb1⟩
      have hS1 := HS0.out.keep hb1
      have hB1 := HA.out.trans (hb1.mono HA.out.size)
      clear hb1
      have s0 := hS1.2 0 _ rfl
      have s1 := hS1.2 1 _ rfl
      have s2 := hS1.2 2 _ rfl
      have s3 := hS1.2 3 _ rfl
      have s4 := hS1.2 4 _ rfl
      have s5 := hS1.2 5 _ rfl
      go_wp2_with fail
      refine (checkS_any s _).mono ?_
      rintro e w2 ⟨rfl, hb2⟩
      rw [HSE.out]
      go_wp2
      go_ret2
      exact ⟨by rw [HR.out]; rfl, hB1.trans (hb2.mono hB1.size)⟩
  · have hce : (chkC c != 0) = true := by simp [hc]
    have hR : mayR s c want = (false, chkC c) := by rw [mayR, if_neg hc]
    have HR := Lib.hid hR
    clear hR hc
    simp only [encS]
    go_enter Tryd.func37, Tryd.ntmps37
    go_wp2_with fail
    refine HK.out.mono ?_
    rintro e w1 ⟨rfl, hb1⟩
    go_wp2
    go_ret2
    exact ⟨by rw [HR.out]; rfl, HA.out.trans (hb1.mono HA.out.size)⟩
end Go.Proofs.YtjkephmfpoekgaaDoor.CredLaw
