/- What read and write at the file "f" come to, as calls of the kernel. Who is user 0 may read and write a file of his own. A number's last eight bits. No program here. Walks of ringkeep5's good. The walks of ringkeep5's Opened, Put, Got, behind what the kernel is asked. ringkeep5's Opened, Put, Got, and a seek, over the kernel's state. -/
import Derived.Test.YtcdjkheelbikjaaGreatDoorRwE
import Derived.Test.YtcdjkheelbikjaaGreatDoorKfF
import Derived.Test.YtcdjkheelbikjaaGreatDoorProcWalk
import Derived.Test.YtcdjkheelbikjaaGreatDoorProg
import Derived.Test.YtcdjkheelbikjaaGreatDoorSpaceMap
import Derived.Test.YtcdjkheelbikjaaGreatDoorRwA
import Derived.Test.YtcdjkheelbikjaaGreatDoorSlB
import Derived.BigQuiet
namespace Go.Proofs.YtcdjkheelbikjaaGreatDoor
open Go.RowKit
set_option linter.unusedVariables false
set_option linter.unusedSimpArgs false
section
variable {w0 : World} {k : KC} {s : KSt} {fc : FC} {x : FM} {p : Nat} {A : Array Value}
theorem thF_is {s : KSt} {k0 : Nat} {a n : Int} (h : s.fs k0 = ⟨1, 2, 3, false, a, n⟩) : OpenLaw.thing (s.fs k0) = .agg (thF a) := by rw [h]; rfl
theorem spec_writeZ (h : KF w0 k s fc x) (p1 : 1 ≤ p) (p16 : p ≤ 16) {q0 : Nat} {m : Int} (hf : FileF x q0 m) (hm : 0 ≤ m ∧ m ≤ 511) {j k0 : Nat} (hj : j < 8) (hd : s.fd (p * 8 + j) = k0 + 1) (hF : OpenLaw.thing (s.fs k0) = .agg (thF 0)) (hA : A.size = 7) (hA0 : A[0]? = some (.int .i64 8)) (hA1 : A[1]? = some (.int .i64 j)) {z : List Int} {ad : Option Addr} {cp : Nat} (hA6 : A[6]? = some (.slice ad z.length cp)) (hz : At (Value.int .u8) 0 w0 (.slice ad z.length cp) z) (hz2 : z.length ≤ 256) :
    OutOk w0 (KOutD w0.heap.size k fc s.tag x.bs (fun s' x' e a b l => e = 0 ∧ a = z.length ∧ s' = SeekTo s k0 z.length ∧ FileZ x' q0 m z ∧ x'.held = x.held ∧ x'.nh = x.nh ∧ l = [])) →
    Spec w0 (KOutD w0.heap.size k fc s.tag x.bs (fun s' x' e a b l => e = 0 ∧ a = z.length ∧ s' = SeekTo s k0 z.length ∧ FileZ x' q0 m z ∧ x'.held = x.held ∧ x'.nh = x.nh ∧ l = [])) 24 #[.pointer (some ⟨k.K, 0, none⟩), .int .i64 p, .agg A] := by
  intro ok
  refine doW_is ok (.inr (.inl rfl)) hA hA0 (descW_is ok h p1 p16 hj hd hF hA hA0 hA1 ?_)
  intro w h0
  have hz0 := h0.size
  have hFi : k.Fi < w0.heap.size := h.kt.lt (by rw [h.kt.tFi]; decide)
  have hlt := h.fs.lt
  refine (kwriteZ_is (h.keep h0) p1 p16 hf hm hj hd hA1 hA6 (hz.keep h0) hz2).mono ?_
  rintro e w' ⟨rfl, x', hk, hfz, hh, hn, hu, hs⟩
  obtain ⟨hX, hone⟩ := ansN3' 0 (z.length : Int) 0
  refine ⟨_, rfl, hX, hone, hu.mono fun i hi e => ?_, SeekTo s k0 z.length, x', 0, z.length, 0, .slice none 0 0, [], hk, fun i e => .inl e, hs, rfl, OB.nil _ _, fun i e => (by cases e), ⟨rfl, rfl, rfl, hfz, hh, hn, rfl⟩, hu.mono fun i _ e => ?_⟩
  · rcases e with rfl | e | e
    · exact hFi
    · exact hlt i e
    · omega
  · rcases e with rfl | e | e
    · left; rw [h.kt.tFi]; decide
    · exact .inr (.inl e)
    · exact .inr (.inr e)
theorem spec_readZ (h : KF w0 k s fc x) (p1 : 1 ≤ p) (p16 : p ≤ 16) {q0 : Nat} {m : Int} {z : List Int} (hf : FileZ x q0 m z) (hz2 : z.length ≤ 256) {j k0 : Nat} (hj : j < 8) (hd : s.fd (p * 8 + j) = k0 + 1) {a n : Nat} (hF : OpenLaw.thing (s.fs k0) = .agg (thF a)) (hA : A.size = 7) (hA0 : A[0]? = some (.int .i64 7)) (hA1 : A[1]? = some (.int .i64 j)) (hA3 : A[3]? = some (.int .i64 n)) (ha : a ≤ 256) (hn : n ≤ 256) :
    OutOk w0 (KOutD w0.heap.size k fc s.tag x.bs (fun s' x' e c b l => e = 0 ∧ l = (z.drop a).take n ∧ c = l.length ∧ s' = SeekTo s k0 ((a + l.length : Nat) : Int) ∧ x' = x)) →
    Spec w0 (KOutD w0.heap.size k fc s.tag x.bs (fun s' x' e c b l => e = 0 ∧ l = (z.drop a).take n ∧ c = l.length ∧ s' = SeekTo s k0 ((a + l.length : Nat) : Int) ∧ x' = x)) 24 #[.pointer (some ⟨k.K, 0, none⟩), .int .i64 p, .agg A] := by
  intro ok
  refine doW_is ok (.inl rfl) hA hA0 (descR_is ok h p1 p16 hj hd hF hA hA0 hA1 ?_)
  intro w h0
  have hz0 := h0.size
  have hFi : k.Fi < w0.heap.size := h.kt.lt (by rw [h.kt.tFi]; decide)
  have hlt := h.fs.lt
  refine (kreadZ_is (h.keep h0) p1 p16 hf hz2 hj hd hA1 hA3 ha hn).mono ?_
  rintro e w' ⟨d, rfl, ho, hk, hu⟩
  obtain ⟨pd, cd, rfl⟩ := ho.form
  obtain ⟨hX, hone⟩ := ansD3 0 (((z.drop a).take n).length : Int) 0 pd ((z.drop a).take n).length cd
  refine ⟨_, rfl, hX, hone, hu.mono fun i hi e => ?_, SeekTo s k0 ((a + ((z.drop a).take n).length : Nat) : Int), x, 0, (((z.drop a).take n).length : Int), 0, _, (z.drop a).take n, hk, fun i e => .inl e, fun i e => .inl e, rfl, ho, fun i e => ?_, ⟨rfl, rfl, rfl, rfl, rfl⟩, hu.mono fun i _ e => ?_⟩
  · rcases e with rfl | e
    · exact hFi
    · omega
  · have := (ho.lt i e).1
    exact ⟨h.kt.tz i (by omega), fun q => by have := hlt i q; omega⟩
  · rcases e with rfl | e
    · left; rw [h.kt.tFi]; decide
    · exact .inr (.inr e)
theorem spec_seekZ (h : KF w0 k s fc x) (p1 : 1 ≤ p) (p16 : p ≤ 16) {j k0 : Nat} (hj : j < 8) (hd : s.fd (p * 8 + j) = k0 + 1) {a : Int} (hF : OpenLaw.thing (s.fs k0) = .agg (thF a)) (hA : A.size = 7) (hA0 : A[0]? = some (.int .i64 9)) (hA1 : A[1]? = some (.int .i64 j)) {b : Int} (hA2 : A[2]? = some (.int .i64 b)) (hb0 : 0 ≤ b ∧ b ≤ 512) :
    OutOk w0 (KOutD w0.heap.size k fc s.tag x.bs (fun s' x' e a c l => e = 0 ∧ s' = SeekTo s k0 b ∧ x' = x ∧ l = [])) →
    Spec w0 (KOutD w0.heap.size k fc s.tag x.bs (fun s' x' e a c l => e = 0 ∧ s' = SeekTo s k0 b ∧ x' = x ∧ l = [])) 24 #[.pointer (some ⟨k.K, 0, none⟩), .int .i64 p, .agg A] :=
  fun ok => doW_is ok (.inr (.inr rfl)) hA hA0 (specS_is h p1 p16 hj hd hF hA hA0 hA1 hA2 hb0)
end
end Go.Proofs.YtcdjkheelbikjaaGreatDoor
namespace Go.Proofs.YtcdjkheelbikjaaGreatDoor
open Go.RowKit
set_option linter.unusedVariables false
set_option linter.unusedSimpArgs false
set_option maxRecDepth 100000 in
set_option maxHeartbeats 400000 in
theorem wanted3_is (w : World) : Calls Tryz.prog 249 #[.int .i64 3] w fun e w' => e = .returned (.int .i64 6) ∧ w = w' := by
  have b1 : bits .and .i64 3 1 = 1 := by decide
  have b2 : bits .and .i64 3 2 = 2 := by decide
  have b3 : bits .and .i64 3 4 = 0 := by decide
  have c1 : bits .or .i64 4 2 = 6 := by decide
  have c2 : bits .or .i64 6 0 = 6 := by decide
  go_enter Tryz.func249, Tryz.ntmps249
  go_wp2_with fail
  go_ret
  exact ⟨rfl, rfl⟩
theorem may_fileR {n : Nd} (hk : n.k = 1) (hm : n.m = 420) (hu : n.u = 0) (hg : n.g = 0) (a : Option Addr) (cap : Nat) (hc : cap ≤ maxLen) : MayIs n 0 127 a cap 3 true := by
  intro w
  have hb := fun w => bitsE_is w n (M := 420) (by rw [hm]; rfl) (K := 127) a cap
  rw [hu] at hb
  have h := may_isG w n (by rw [hm]; decide) (by rw [hu]; decide) (by rw [hg]; decide) (U := 0) (K := 127) (by decide) (.inr rfl) a cap hc hb (W := 3) (z := 6) (by decide) wanted3_is
  have e : (bits .andNot .i64 (6 : Int) (bits .or .i64 ((420 / 64 : Nat) : Int) (if (127 : Int) = 0 then 0 else if n.k = 2 then 7 else 6)) == 0) = true := by
    rw [hk]
    decide
  rw [e] at h
  exact h
theorem may_rootR {n : Nd} (hk : n.k = 2) (hm : n.m = 493) (hu : n.u = 0) (hg : n.g = 0) (a : Option Addr) (cap : Nat) (hc : cap ≤ maxLen) : MayIs n 0 127 a cap 1 true := by
  intro w
  have hb := fun w => bitsE_is w n (M := 493) (by rw [hm]; rfl) (K := 127) a cap
  rw [hu] at hb
  have h := may_is w n (by rw [hm]; decide) (by rw [hu]; decide) (by rw [hg]; decide) (U := 0) (K := 127) (by decide) (.inr rfl) a cap hc hb (W := 1) (z := 4) (.inl ⟨rfl, rfl⟩)
  have e : (bits .andNot .i64 (4 : Int) (bits .or .i64 ((493 / 64 : Nat) : Int) (if (127 : Int) = 0 then 0 else if n.k = 2 then 7 else 6)) == 0) = true := by
    rw [hk]
    decide
  rw [e] at h
  exact h
end Go.Proofs.YtcdjkheelbikjaaGreatDoor
namespace Go.Proofs.YtcdjkheelbikjaaGreatDoor
theorem and255 (x : Int) : bits .and .i64 x 255 = x % 256 := by
  have hb : (x % 18446744073709551616).toNat &&& 255 = (x % 18446744073709551616).toNat % 256 := Nat.and_two_pow_sub_one_eq_mod _ 8
  have h5 : (BitVec.ofInt 64 255).toNat = 255 := by decide
  have hx : (BitVec.ofInt 64 x).toNat = (x % 18446744073709551616).toNat := by rw [BitVec.toNat_ofInt]; rfl
  have e : bits .and .i64 x 255 = IntKind.i64.wrap ((BitVec.ofInt 64 x &&& BitVec.ofInt 64 255).toNat : Int) := rfl
  rw [e, BitVec.toNat_and, h5, hx, hb]
  rw [wraps_i64 _ (by omega) (by omega)]
  omega
end Go.Proofs.YtcdjkheelbikjaaGreatDoor
namespace Go.Proofs.YtcdjkheelbikjaaGreatDoor
set_option linter.unusedSimpArgs false
open Go.RowKit
set_option linter.unusedVariables false


/-- where the first number that is not 0 stands; -1 -/
def firstBad : List Int → Int → Int
  | [], _ => -1
  | e :: t, i => if e = 0 then firstBad t (i + 1) else i
theorem firstBad_ge (l : List Int) : ∀ i, 0 ≤ i → (0 ≤ firstBad l i ↔ l.all (· == 0) = false) ∧ -1 ≤ firstBad l i := by
  induction l with
  | nil => intro i hi; simp [firstBad]
  | cons e t ih =>
    intro i hi
    simp only [firstBad]
    by_cases h : e = 0
    · rw [if_pos h]
      have := ih (i + 1) (by omega)
      simpa [h] using this
    · rw [if_neg h]
      simp [h]
      omega
theorem firstBad_skip (l : List Int) : ∀ (k : Nat) (i : Int), k ≤ l.length → (∀ j, j < k → l.getD j 0 = 0) → firstBad l i = firstBad (l.drop k) (i + k) := by
  induction l with
  | nil => intro k i hk _; simp at hk; subst hk; simp
  | cons e t ih =>
    intro k i hk h
    cases k with
    | zero => simp
    | succ k =>
      have h0 := h 0 (by omega)
      simp at h0
      simp only [firstBad, if_pos h0, List.drop_succ_cons]
      rw [ih k (i + 1) (by simpa using hk) (fun j hj => by simpa using h (j + 1) (by omega))]
      congr 1; omega

theorem bad_any (e : Int) (w : World) : Calls Tryz.prog 27 #[.int .i64 e] w fun r w' => r = .returned (.bool (e != 0)) ∧ w = w' := by
  go_enter Tryz.func27, Tryz.ntmps27
  go_wp2
  go_ret
  exact ⟨rfl, rfl⟩

theorem indexBad_any (b cap : Nat) (l : List Int) (w : World) (hl : l.length ≤ 4294967296) (hc : ∀ i, i < l.length → w.cell? ⟨b, i, none⟩ = some (.int .i64 (l.getD i 0))) :
    Calls Tryz.prog 48 #[.slice (some ⟨b, 0, none⟩) l.length cap, .func (.func 27) #[] #[]] w fun e w' => e = .returned (.int .i64 (firstBad l 0)) ∧ w = w' := by
  obtain ⟨n, hn⟩ : ∃ n, n = l.length := ⟨_, rfl⟩
  have HC := Lib.hid hc
  have HN := Lib.hid hn
  rw [← hn] at hl ⊢
  clear hc hn
  go_enter Tryz.func48, Tryz.ntmps48
  go_wp2_with fail
  go_loop [8] (fun i => ∃ k : Nat, k ≤ n ∧ i = .int .i64 k ∧ Hid (∀ j, j < k → l.getD j 0 = 0)) (fun i => n - (intOf i).toNat)
  case atStart => exact ⟨0, Nat.zero_le _, rfl, fun j hj => absurd hj (Nat.not_lt_zero _)⟩
  case round =>
    obtain ⟨k, hk, rfl, HM⟩ := hrel
    by_cases hlt : k < n
    · obtain ⟨x, hx⟩ : ∃ x, x = l.getD k 0 := ⟨_, rfl⟩
      have g1 := HC.out k (by rw [← HN.out]; exact hlt)
      rw [← hx] at g1
      have HX := Lib.hid hx
      clear hx
      by_cases hz : x = 0
      · have hb : (x != 0) = false := by simp [hz]
        have HZ := Lib.hid hz
        clear hz
        go_wp2_with (go_at_call 27; refine (bad_any _ _).mono ?_; rintro e w' ⟨rfl, rfl⟩)
        go_round
        case rel => exact ⟨k + 1, by omega, by go_num, fun j hj => by
          rcases Nat.lt_succ_iff_lt_or_eq.1 hj with h | rfl
          · exact HM.out j h
          · rw [← HX.out]; exact HZ.out⟩
        case measure => simp [intOf]; omega
      · have hb : (x != 0) = true := by simp [hz]
        have HZ := Lib.hid hz
        clear hz
        go_wp2_with (go_at_call 27; refine (bad_any _ _).mono ?_; rintro e w' ⟨rfl, rfl⟩)
        go_ret
        refine ⟨ret_int ?_, rfl⟩
        rw [firstBad_skip l k 0 (by rw [← HN.out]; omega) HM.out, List.drop_eq_getElem_cons (by rw [← HN.out]; exact hlt), firstBad, if_neg]
        · omega
        · have := HX.out
          simp only [List.getD, List.getElem?_eq_getElem (show k < l.length by rw [← HN.out]; exact hlt), Option.getD_some] at this
          rw [← this]; exact HZ.out
    · obtain rfl : k = n := by omega
      go_wp2_with fail
      go_ret
      refine ⟨ret_int ?_, rfl⟩
      rw [firstBad_skip l k 0 (by rw [← HN.out]; omega) HM.out, List.drop_of_length_le (by rw [← HN.out]; omega)]
      rfl

theorem good_any (b cap : Nat) (l : List Int) (w : World) (hl : l.length ≤ 4294967296) (hc : ∀ i, i < l.length → w.cell? ⟨b, i, none⟩ = some (.int .i64 (l.getD i 0))) :
    Calls Tryz.prog 15 #[.slice (some ⟨b, 0, none⟩) l.length cap] w fun e w' => e = .returned (.bool (l.all (· == 0))) ∧ w = w' := by
  have HI := Lib.hid (indexBad_any b cap l w hl hc)
  obtain ⟨f, hf⟩ : ∃ f, f = firstBad l 0 := ⟨_, rfl⟩
  have hfb := firstBad_ge l 0 (by omega)
  rw [← hf] at HI hfb
  obtain ⟨h1, h2⟩ := hfb
  clear hc hf
  obtain ⟨n, hn⟩ : ∃ n, n = l.length := ⟨_, rfl⟩
  rw [← hn] at HI ⊢
  clear hn hl
  cases hg : l.all (· == 0)
  · have hf0 : 0 ≤ f := h1.2 hg
    clear h1 hg
    go_enter Tryz.func15, Tryz.ntmps15
    go_wp2_with (first | (go_at_call 26; go_in) | (go_at_call 48; refine HI.out.mono ?_; rintro e w' ⟨rfl, rfl⟩))
    go_ret
    exact ⟨rfl, rfl⟩
  · have hf0 : f < 0 := by
      rcases Int.lt_or_le f 0 with h | h
      · exact h
      · have := h1.1 h; rw [hg] at this; cases this
    clear h1 hg
    go_enter Tryz.func15, Tryz.ntmps15
    go_wp2_with (first | (go_at_call 26; go_in) | (go_at_call 48; refine HI.out.mono ?_; rintro e w' ⟨rfl, rfl⟩))
    go_ret
    exact ⟨ret_bool (by simp; omega), rfl⟩
end Go.Proofs.YtcdjkheelbikjaaGreatDoor
namespace Go.Proofs.YtcdjkheelbikjaaGreatDoor
open Go.RowKit
set_option linter.unusedVariables false
set_option linter.unusedSimpArgs false
def callO (B : Int) (nm : ByteArray) : Array Value := #[.int .i64 5, .int .i64 3, .int .i64 B, .int .i64 420, .string nm, .string ByteArray.empty, .slice none 0 0]
def callP (fd : Int) (ad : Option Addr) (L cp : Nat) : Array Value := #[.int .i64 8, .int .i64 fd, .int .i64 0, .int .i64 0, .string ByteArray.empty, .string ByteArray.empty, .slice ad L cp]
theorem bdc_O (w : World) (B : Int) (nm : ByteArray) : (bdC #[(0, .int .i64 5), (4, .string nm), (1, .int .i64 3), (2, .int .i64 B), (3, .int .i64 420)]).run Tryz.prog w = .ok (.agg (callO B nm)) w := by kernel_rfl
theorem bdc_P (w : World) (fd : Int) (ad : Option Addr) (L cp : Nat) : (bdC #[(0, .int .i64 8), (1, .int .i64 fd), (6, .slice ad L cp)]).run Tryz.prog w = .ok (.agg (callP fd ad L cp)) w := by kernel_rfl
theorem bdc_G (w : World) (fd n : Int) : (bdC #[(0, .int .i64 7), (1, .int .i64 fd), (3, .int .i64 n)]).run Tryz.prog w = .ok (.agg (callA 7 fd 0 n)) w := by kernel_rfl
theorem bdc_S (w : World) (fd b : Int) : (bdC #[(0, .int .i64 9), (1, .int .i64 fd), (2, .int .i64 b)]).run Tryz.prog w = .ok (.agg (callA 9 fd b 0)) w := by kernel_rfl
theorem ans_newD (w : World) (e a b : Int) (p : Option Addr) (n c : Nat) : (stR 37 (.pointer (some ⟨w.heap.size, 0, none⟩)) (.agg (ansV e a b (.slice p n c)))).run Tryz.prog (w.alloc (.cells #[.int .i64 0, .int .i64 0, .int .i64 0, .slice none 0 0, .slice none 0 0, .int .i64 0, .int .i64 0, .int .i64 0, .int .i64 0, .int .i64 0, .int .i64 0] 37)) = .ok () (w.alloc (.cells (ansV e a b (.slice p n c)) 37)) := st0_new w rfl (by kernel_rfl) (ansV_one _ _ _ rfl)
section
variable {w : World} {K : Nat} {p : Int} {P : World → Nat → Prop}
attribute [local go_sem ↓] ld_ans st_ans bd_call
set_option maxRecDepth 100000 in
set_option maxHeartbeats 1000000 in
theorem opened_is {B : Int} {nm : ByteArray} (hs : Calls Tryz.prog 10 #[.pointer (some ⟨K, 0, none⟩), .int .i64 p, .agg (callO B nm)] w fun e2 w' => ∃ (j : Nat) (b : Int) (pd : Option Addr) (m cd : Nat), e2 = .returned (.agg (ansV 0 j b (.slice pd m cd))) ∧ P (w'.alloc (.cells (ansV 0 j b (.slice pd m cd)) 37)) j) :
    Calls Tryz.prog 6 #[.pointer (some ⟨K, 0, none⟩), .int .i64 p, .string nm, .int .i64 B] w fun e w' => ∃ j : Nat, e = .returned (.int .i64 j) ∧ P w' j := by
  have hbd := bdc_O
  have HS := Lib.hid hs
  clear hs
  go_enter Tryz.func6, Tryz.ntmps6
  go_upto_region 2 with (go_at_call 10; refine HS.out.mono ?_; rintro e4 w4 ⟨j, b, pd, m, cd, rfl, hP⟩; have hst := ans_newD w4 0 j b pd m cd; have HP := Lib.hid hP; clear hP)
  have r0 := ((row_new w4 37 (ansV 0 j b (.slice pd m cd))).cell 0).trans (show (ansV 0 j b (.slice pd m cd))[0]? = some (.int .i64 0) from rfl)
  have r1 := ((row_new w4 37 (ansV 0 j b (.slice pd m cd))).cell 1).trans (show (ansV 0 j b (.slice pd m cd))[1]? = some (.int .i64 j) from rfl)
  clear hst
  generalize w4.alloc (.cells (ansV 0 j b (.slice pd m cd)) 37) = w5 at *
  go_wp2_with fail
  go_ret
  exact ⟨j, rfl, HP.out⟩
set_option maxRecDepth 100000 in
set_option maxHeartbeats 1000000 in
theorem put_is {P : World → Prop} {fd : Int} {ad : Option Addr} {L cp : Nat} (hs : Calls Tryz.prog 10 #[.pointer (some ⟨K, 0, none⟩), .int .i64 p, .agg (callP fd ad L cp)] w fun e2 w' => ∃ (b : Int) (pd : Option Addr) (m cd : Nat), e2 = .returned (.agg (ansV 0 L b (.slice pd m cd))) ∧ P (w'.alloc (.cells (ansV 0 L b (.slice pd m cd)) 37))) :
    Calls Tryz.prog 7 #[.pointer (some ⟨K, 0, none⟩), .int .i64 p, .int .i64 fd, .slice ad L cp] w fun e w' => e = .returned (.bool true) ∧ P w' := by
  have hbd := bdc_P
  have HS := Lib.hid hs
  clear hs
  go_enter Tryz.func7, Tryz.ntmps7
  go_upto_region 2 with (go_at_call 10; refine HS.out.mono ?_; rintro e4 w4 ⟨b, pd, m, cd, rfl, hP⟩; have hst := ans_newD w4 0 L b pd m cd; have HP := Lib.hid hP; clear hP)
  have r0 := ((row_new w4 37 (ansV 0 L b (.slice pd m cd))).cell 0).trans (show (ansV 0 L b (.slice pd m cd))[0]? = some (.int .i64 0) from rfl)
  have r1 := ((row_new w4 37 (ansV 0 L b (.slice pd m cd))).cell 1).trans (show (ansV 0 L b (.slice pd m cd))[1]? = some (.int .i64 L) from rfl)
  clear hst
  generalize w4.alloc (.cells (ansV 0 L b (.slice pd m cd)) 37) = w5 at *
  go_wp2_with fail
  go_ret
  exact ⟨rfl, HP.out⟩
set_option maxRecDepth 100000 in
set_option maxHeartbeats 1000000 in
theorem got_is {P : World → Value → Prop} {fd n : Int} (hs : Calls Tryz.prog 10 #[.pointer (some ⟨K, 0, none⟩), .int .i64 p, .agg (callA 7 fd 0 n)] w fun e2 w' => ∃ (a b : Int) (pd : Option Addr) (m cd : Nat), e2 = .returned (.agg (ansV 0 a b (.slice pd m cd))) ∧ P (w'.alloc (.cells (ansV 0 a b (.slice pd m cd)) 37)) (.slice pd m cd)) (hP : ∀ w w' v, P w v → Below w.heap.size w w' → P w' v) :
    Calls Tryz.prog 11 #[.pointer (some ⟨K, 0, none⟩), .int .i64 p, .int .i64 fd, .int .i64 n] w fun e w' => ∃ pd m cd, e = .returned (.tuple #[.slice pd m cd, .int .i64 0]) ∧ P w' (.slice pd m cd) := by
  have hbd := bdc_G
  have HS := Lib.hid hs
  have HPP := Lib.hid hP
  clear hs hP
  go_enter Tryz.func11, Tryz.ntmps11
  go_upto_region 2 with (go_at_call 10; refine HS.out.mono ?_; rintro e4 w4 ⟨a, b, pd, m, cd, rfl, hP⟩; have hst := ans_newD w4 0 a b pd m cd; have HP := Lib.hid hP; clear hP)
  have r0 := ((row_new w4 37 (ansV 0 a b (.slice pd m cd))).cell 0).trans (show (ansV 0 a b (.slice pd m cd))[0]? = some (.int .i64 0) from rfl)
  have r3 := ((row_new w4 37 (ansV 0 a b (.slice pd m cd))).cell 3).trans (show (ansV 0 a b (.slice pd m cd))[3]? = some (.slice pd m cd) from rfl)
  clear hst
  generalize w4.alloc (.cells (ansV 0 a b (.slice pd m cd)) 37) = w5 at *
  go_quiet (fail)
  go_wp2_with fail
  go_ret2
  exact ⟨pd, m, cd, rfl, HPP.out _ _ _ HP.out (below_drewN (Below.refl _ _) _)⟩
end
end Go.Proofs.YtcdjkheelbikjaaGreatDoor
namespace Go.Proofs.YtcdjkheelbikjaaGreatDoor
open Go.RowKit
set_option linter.unusedVariables false
set_option linter.unusedSimpArgs false
section
variable {w0 w : World} {k : KC} {s : KSt} {fc : FC} {x : FM} {l : List (Nat × Array Value)} {a : Option Addr} {cap gc cc : Nat}
theorem openN_ask (h : ED w0 w k s fc x l) (haw : Awake s 1) (q : Who w s 1 0 127 a cap gc cc) {q0 : Nat} (hr : Root0 x q0) (hna : x.na ≤ 2) (hh : x.nh < 1000 ∧ hcn (x.held 2) < 1000) (hf1 : ∃ j, j < 8 ∧ s.fd (1 * 8 + j) = 0) (hf2 : ∃ k0, k0 < 32 ∧ (s.fs k0).n = 0) (hg1 : ¬ x.bs gc) (hg2 : gc ≠ k.Fi) :
    Calls Tryz.prog 6 #[.pointer (some ⟨k.K, 0, none⟩), .int .i64 1, .string ⟨#[102]⟩, .int .i64 1] w fun e w' => ∃ j : Nat, e = .returned (.int .i64 j) ∧ ∃ k0 x1 rows, ED w0 w' k (OpenTo s 1 3 j k0) fc x1 rows ∧ j < 8 ∧ k0 < 32 ∧ FileF x1 q0 420 ∧ x1.nh = x.nh + 1 ∧ x1.held 2 = some (hcn (x.held 2)) := by
  refine opened_is (K := k.K) (p := 1) (B := 1) (nm := ⟨#[102]⟩) (P := fun w' j => ∃ k0 x1 rows, ED w0 w' k (OpenTo s 1 3 j k0) fc x1 rows ∧ j < 8 ∧ k0 < 32 ∧ FileF x1 q0 420 ∧ x1.nh = x.nh + 1 ∧ x1.held 2 = some (hcn (x.held 2))) ?_
  refine (h.ask (p := 1) (A := callO 1 ⟨#[102]⟩) haw rfl (fun ok => doD_is ok rfl rfl rfl (descO_is ok rfl rfl rfl (specF_D (spec_openN (A := callO 1 ⟨#[102]⟩) h.kf q (by decide) hr hna (m := 420) (by decide) rfl rfl rfl rfl rfl hh hf1 hf2 hg1 hg2))))).mono ?_
  rintro e2 w' ⟨s', x', e, a2, b, d, dl, he2, ⟨hl, g, he0, j, k0, hj, hk0, hs', hf, hnh, hhd, hg, ha2⟩, hO, he, hd, hft, hbs, hU⟩
  obtain ⟨pd, cd, hdv⟩ := hO.form
  subst he0
  subst hs'
  subst ha2
  subst hdv
  exact ⟨j, b, pd, dl.length, cd, he2, k0, x', _, he, hj, hk0, hf, hnh, hhd⟩
theorem put_ask (h : ED w0 w k s fc x l) (haw : Awake s 1) {q0 : Nat} (hf : FileF x q0 420) {j k0 : Nat} (hj : j < 8) (hd : s.fd (1 * 8 + j) = k0 + 1) (hF : OpenLaw.thing (s.fs k0) = .agg (thF 0)) {z : List Int} {ad : Option Addr} {L cp : Nat} (hL : L = z.length) (hz : At (Value.int .u8) 0 w (.slice ad L cp) z) (hz2 : z.length ≤ 256) :
    Calls Tryz.prog 7 #[.pointer (some ⟨k.K, 0, none⟩), .int .i64 1, .int .i64 j, .slice ad L cp] w fun e w' => e = .returned (.bool true) ∧ ∃ x2 rows, ED w0 w' k (SeekTo s k0 z.length) fc x2 rows ∧ FileZ x2 q0 420 z ∧ x2.nh = x.nh ∧ x2.held = x.held := by
  subst hL
  refine put_is (K := k.K) (p := 1) (fd := (j : Int)) (P := fun w' => ∃ x2 rows, ED w0 w' k (SeekTo s k0 z.length) fc x2 rows ∧ FileZ x2 q0 420 z ∧ x2.nh = x.nh ∧ x2.held = x.held) ?_
  have hs := spec_writeZ (A := callP j ad z.length cp) h.kf (by decide) (by decide) hf (by decide) hj hd hF rfl rfl rfl rfl hz hz2
  refine (h.ask (p := 1) (A := callP j ad z.length cp) haw rfl hs).mono ?_
  rintro e2 w' ⟨s', x', e, a2, b, d, dl, he2, ⟨he0, ha2, hs', hfz, hh, hn, hl⟩, hO, he, hdd, hft, hbs, hU⟩
  obtain ⟨pd, cd, hdv⟩ := hO.form
  subst he0
  subst ha2
  subst hs'
  subst hdv
  exact ⟨b, pd, dl.length, cd, he2, x', _, he, hfz, hn, hh⟩
theorem openS_ask (h : ED w0 w k s fc x l) (haw : Awake s 1) (q : Who w s 1 0 127 a cap gc cc) {q0 : Nat} {z : List Int} (hf : FileZ x q0 420 z) (hh : x.nh < 1000 ∧ hcn (x.held 2) < 1000) (hf1 : ∃ j, j < 8 ∧ s.fd (1 * 8 + j) = 0) (hf2 : ∃ k0, k0 < 32 ∧ (s.fs k0).n = 0) (hg1 : ¬ x.bs gc) (hg2 : gc ≠ k.Fi) :
    Calls Tryz.prog 6 #[.pointer (some ⟨k.K, 0, none⟩), .int .i64 1, .string ⟨#[47, 102]⟩, .int .i64 0] w fun e w' => ∃ j : Nat, e = .returned (.int .i64 j) ∧ ∃ k0 rows, ED w0 w' k (OpenTo s 1 3 j k0) fc (heldTo x) rows ∧ j < 8 ∧ k0 < 32 := by
  obtain ⟨pvn, hn1e⟩ := hf.n1
  have hMf : MayIs (x.nd 1) 0 127 a cap 3 true := may_fileR (by rw [hn1e]) (by rw [hn1e]) (by rw [hn1e]) (by rw [hn1e]) a cap q.hc
  have hMr : MayIs (x.nd 0) 0 127 a cap 4 true := may_root hf.k hf.m0 hf.u hf.g a cap q.hc (.inl rfl)
  refine opened_is (K := k.K) (p := 1) (B := 0) (nm := ⟨#[47, 102]⟩) (P := fun w' j => ∃ k0 rows, ED w0 w' k (OpenTo s 1 3 j k0) fc (heldTo x) rows ∧ j < 8 ∧ k0 < 32) ?_
  refine (h.ask (p := 1) (A := callO 0 ⟨#[47, 102]⟩) haw rfl (fun ok => doD_is ok rfl rfl rfl (descO_is ok rfl rfl rfl (specF_D (spec_openS (A := callO 0 ⟨#[47, 102]⟩) h.kf q (by decide) hf (C := 420) (by decide) (W := 3) rfl rfl rfl rfl rfl (by decide) hMr hMf hh hf1 hf2 hg1 hg2))))).mono ?_
  rintro e2 w' ⟨s', x', e, a2, b, d, dl, he2, ⟨hl, g, he0, j, k0, hj, hk0, hs', hx', hg, ha2⟩, hO, he, hd, hft, hbs, hU⟩
  obtain ⟨pd, cd, hdv⟩ := hO.form
  subst he0
  subst hs'
  subst hx'
  subst ha2
  subst hdv
  exact ⟨j, b, pd, dl.length, cd, he2, k0, _, he, hj, hk0⟩
theorem seek_ask (h : ED w0 w k s fc x l) (haw : Awake s 1) {j k0 : Nat} (hj : j < 8) (hd : s.fd (1 * 8 + j) = k0 + 1) {a0 : Int} (hF : OpenLaw.thing (s.fs k0) = .agg (thF a0)) {b : Int} (hb0 : 0 ≤ b ∧ b ≤ 512) :
    Calls Tryz.prog 10 #[.pointer (some ⟨k.K, 0, none⟩), .int .i64 1, .agg (callA 9 j b 0)] w fun e2 w' => ∃ (a1 b1 : Int) (pd : Option Addr) (m cd : Nat), e2 = .returned (.agg (ansV 0 a1 b1 (.slice pd m cd))) ∧ ∃ rows, ED w0 (w'.alloc (.cells (ansV 0 a1 b1 (.slice pd m cd)) 37)) k (SeekTo s k0 b) fc x ((w'.heap.size, ansV 0 a1 b1 (.slice pd m cd)) :: rows) := by
  refine (h.ask (p := 1) (A := callA 9 j b 0) haw rfl (spec_seekZ h.kf (by decide) (by decide) hj hd hF rfl rfl rfl rfl hb0)).mono ?_
  rintro e2 w' ⟨s', x', e, a2, b2, d, dl, he2, ⟨he0, hs', hx', hl⟩, hO, he, hdd, hft, hbs, hU⟩
  obtain ⟨pd, cd, hdv⟩ := hO.form
  subst he0
  subst hs'
  subst hx'
  subst hdv
  exact ⟨a2, b2, pd, dl.length, cd, he2, _, he⟩
theorem got_ask (h : ED w0 w k s fc x l) (haw : Awake s 1) {q0 : Nat} {m : Int} {z : List Int} (hf : FileZ x q0 m z) (hz2 : z.length ≤ 256) {j k0 : Nat} (hj : j < 8) (hd : s.fd (1 * 8 + j) = k0 + 1) {a0 n : Nat} (hF : OpenLaw.thing (s.fs k0) = .agg (thF a0)) (ha : a0 ≤ 256) (hn : n ≤ 256) :
    Calls Tryz.prog 11 #[.pointer (some ⟨k.K, 0, none⟩), .int .i64 1, .int .i64 j, .int .i64 n] w fun e w' => ∃ pd m1 cd, e = .returned (.tuple #[.slice pd m1 cd, .int .i64 0]) ∧ OB w.heap.size w' (.slice pd m1 cd) ((z.drop a0).take n) ∧ ∃ rows, ED w0 w' k (SeekTo s k0 ((a0 + ((z.drop a0).take n).length : Nat) : Int)) fc x (rows ++ l) ∧ ∀ j, (Value.slice pd m1 cd).ownBlock = some j → s.tag j = 0 ∧ ¬ x.bs j := by
  refine got_is (K := k.K) (p := 1) (fd := (j : Int)) (n := (n : Int)) (P := fun w' v => OB w.heap.size w' v ((z.drop a0).take n) ∧ ∃ rows, ED w0 w' k (SeekTo s k0 ((a0 + ((z.drop a0).take n).length : Nat) : Int)) fc x (rows ++ l) ∧ ∀ j, v.ownBlock = some j → s.tag j = 0 ∧ ¬ x.bs j) ?_ (fun w1 w2 v hv hb => ⟨hv.1.keep hb, by obtain ⟨-, rows, he, ht⟩ := hv; exact ⟨rows, he.keep hb, ht⟩⟩)
  have hs := spec_readZ (A := callA 7 j 0 n) h.kf (by decide) (by decide) hf hz2 hj hd hF rfl rfl rfl rfl ha hn
  refine (h.ask (p := 1) (A := callA 7 j 0 n) haw rfl hs).mono ?_
  rintro e2 w' ⟨s', x', e, a2, b2, d, dl, he2, ⟨he0, hdl, ha2, hs', hx'⟩, hO, he, hdd, hft, hbs, hU⟩
  obtain ⟨pd, cd, hdv⟩ := hO.form
  subst he0
  subst hx'
  subst hdl
  subst hs'
  subst hdv
  exact ⟨a2, b2, pd, _, cd, he2, hO.keep (Go.Joins.below_alloc1 _ _), [_], he, hdd⟩
end
end Go.Proofs.YtcdjkheelbikjaaGreatDoor
