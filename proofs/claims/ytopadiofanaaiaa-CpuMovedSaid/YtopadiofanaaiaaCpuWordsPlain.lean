/- CpuWords in plain numbers: three instructions on a room of 64 bytes. -/
import Derived.Test.YtopadiofanaaiaaCpuLaws
namespace Go.Proofs.Ytopadiofanaaiaa.CpuLaw
open Go.RowKit
set_option linter.unusedVariables false
set_option linter.unusedSimpArgs false
/-- a room of 64 bytes, with all rights -/
def mW (f : Nat → Nat) : M := ⟨0, 64, f, 7⟩
theorem idx0 {f : Nat → Nat} {a : Nat} (h : a < 64) : idx (mW f) a = a := by
  show (a + 4294967296 - 0) % 4294967296 = a
  omega
theorem up0 {a k : Nat} (h : a + k < 64) : up a k = a + k := by unfold up; omega
theorem can0 {f : Nat → Nat} {a : Nat} {want : Int} (h : a < 64) (hw : bits .andNot .i64 want 7 = 0) : can (mW f) a want := ⟨by rw [idx0 h]; exact h, hw⟩
theorem canS0 {f : Nat → Nat} {a : Nat} (h : a < 64) : canS (mW f) a := ⟨by rw [idx0 h]; exact h, by show bits .and .i64 7 2 ≠ 0; decide⟩
theorem byte0 {f : Nat → Nat} {a : Nat} (h : a < 64) : byteAt (mW f) a = f a := by
  unfold byteAt
  rw [idx0 h]
  rfl
theorem fetch0 {f : Nat → Nat} {a : Nat} {want : Int} (h4 : a % 4 = 0) (h : a + 3 < 64) (hw : bits .andNot .i64 want 7 = 0) : fetchF (mW f) a want = (f a + f (a + 1) * 256 + f (a + 2) * 65536 + f (a + 3) * 16777216, 0, 0) := by
  unfold fetchF first4 wordAt
  rw [if_pos h4, up0 (a := a) (k := 1) (by omega), up0 (a := a) (k := 2) (by omega), up0 (a := a) (k := 3) (by omega), if_pos (can0 (by omega) hw), if_pos (can0 (by omega) hw), if_pos (can0 (by omega) hw), if_pos (can0 (by omega) hw), byte0 (by omega), byte0 (by omega), byte0 (by omega), byte0 (by omega)]
/-- a word laid -/
def lay (f : Nat → Nat) (a x : Nat) (i : Nat) : Nat := if i = a + 3 then x / 16777216 % 256 else if i = a + 2 then x / 65536 % 256 else if i = a + 1 then x / 256 % 256 else if i = a then x % 256 else f i
theorem setM0 {f : Nat → Nat} {k x : Nat} : setM (mW f) k x = mW (fun i => if i = k then x else f i) := rfl
theorem put0 {f : Nat → Nat} {a x : Nat} (h4 : a % 4 = 0) (h : a + 3 < 64) : putF (mW f) a x = (4, 0, 0) := by
  unfold putF first4
  rw [if_pos h4, up0 (a := a) (k := 1) (by omega), up0 (a := a) (k := 2) (by omega), up0 (a := a) (k := 3) (by omega), if_pos (canS0 (by omega)), if_pos (canS0 (by omega)), if_pos (canS0 (by omega)), if_pos (canS0 (by omega))]
theorem after0 {f : Nat → Nat} {a x : Nat} (h : a + 3 < 64) : after (mW f) a x 4 = mW (lay f a x) := by
  show setM (setM (setM (setM (mW f) (idx (mW f) a) (x % 256)) (idx (mW f) (up a 1)) (x / 256 % 256)) (idx (mW f) (up a 2)) (x / 65536 % 256)) (idx (mW f) (up a 3)) (x / 16777216 % 256) = _
  rw [up0 (a := a) (k := 1) (by omega), up0 (a := a) (k := 2) (by omega), up0 (a := a) (k := 3) (by omega), idx0 (by omega), idx0 (by omega), idx0 (by omega), idx0 (by omega)]
  rfl
theorem stepF_of {g : G} {m : M} {x : Nat} {op C : Int} {A B : Nat} (hf : fetchF m g.pc 4 = (x, 0, 0)) (hd : CodeLaw.decR (x : Int) = (⟨op, A, B, C⟩, 0)) (h1 : op ≠ 1) (h26 : op ≠ 26) : stepF g m = execF g m op A B C := by
  unfold stepF
  rw [hf]
  simp only [if_true, hd]
  rw [if_pos ⟨by trivial, h1, h26⟩]
  simp
theorem enc1 : CodeLaw.encI ⟨17, 1, 2, 0⟩ = (286392320, 0) := by decide +kernel
theorem enc2 : CodeLaw.encI ⟨15, 3, 2, 0⟩ = (254935040, 0) := by decide +kernel
theorem enc3 : CodeLaw.encI ⟨16, 4, 2, 3⟩ = (272760835, 0) := by decide +kernel
theorem dec1 : CodeLaw.decR ((286392320 : Nat) : Int) = (⟨17, (1 : Nat), (2 : Nat), 0⟩, 0) := by have := (CodeLaw.back (i := ⟨17, 1, 2, 0⟩) (by rw [enc1])).2; rw [enc1] at this; exact this
theorem dec2 : CodeLaw.decR ((254935040 : Nat) : Int) = (⟨15, (3 : Nat), (2 : Nat), 0⟩, 0) := by have := (CodeLaw.back (i := ⟨15, 3, 2, 0⟩) (by rw [enc2])).2; rw [enc2] at this; exact this
theorem dec3 : CodeLaw.decR ((272760835 : Nat) : Int) = (⟨16, (4 : Nat), (2 : Nat), 3⟩, 0) := by have := (CodeLaw.back (i := ⟨16, 4, 2, 3⟩) (by rw [enc3])).2; rw [enc3] at this; exact this
/-- the bytes of the program -/
def progB : List Int := [0, 0, 18, 17, 0, 0, 50, 15, 3, 0, 66, 16]
structure HasProg (f : Nat → Nat) : Prop where
  p : ∀ i, i < 12 → (f i : Int) = progB.getD i 0
theorem HasProg.at0 {f : Nat → Nat} (h : HasProg f) : f 0 = 0 ∧ f 1 = 0 ∧ f 2 = 18 ∧ f 3 = 17 := by
  have a := h.p 0 (by decide); have b := h.p 1 (by decide); have c := h.p 2 (by decide); have d := h.p 3 (by decide)
  simp [progB] at a b c d
  omega
theorem HasProg.at4 {f : Nat → Nat} (h : HasProg f) : f 4 = 0 ∧ f 5 = 0 ∧ f 6 = 50 ∧ f 7 = 15 := by
  have a := h.p 4 (by decide); have b := h.p 5 (by decide); have c := h.p 6 (by decide); have d := h.p 7 (by decide)
  simp [progB] at a b c d
  omega
theorem HasProg.at8 {f : Nat → Nat} (h : HasProg f) : f 8 = 3 ∧ f 9 = 0 ∧ f 10 = 66 ∧ f 11 = 16 := by
  have a := h.p 8 (by decide); have b := h.p 9 (by decide); have c := h.p 10 (by decide); have d := h.p 11 (by decide)
  simp [progB] at a b c d
  omega
theorem HasProg.lay {f : Nat → Nat} (h : HasProg f) {a x : Nat} (ha : 12 ≤ a) : HasProg (lay f a x) := by
  refine ⟨fun i hi => ?_⟩
  unfold CpuLaw.lay
  rw [if_neg (by omega), if_neg (by omega), if_neg (by omega), if_neg (by omega)]
  exact h.p i hi
/-- a step's out when it loads, stores -/
theorem exec17 {g : G} {f : Nat → Nat} {A B : Nat} (h4 : g.r B % 4 = 0) (h : g.r B + 3 < 64) : execF g (mW f) 17 A B 0 = ⟨nextG g, 0, 0, mW (lay f (g.r B) (g.r A))⟩ := by
  have hu : up ((nextG g).r B) (u32z 0) = g.r B := by show up (g.r B) 0 = _; exact up_zero (by omega)
  have hm : memF (nextG g) (mW f) 17 A B (u32z 0) = ⟨nextG g, 0, 0, mW (lay f (g.r B) (g.r A))⟩ := by
    rw [memF, if_neg (by decide), if_neg (by decide), if_pos rfl, hu, put0 h4 h]
    show (⟨_, 0, 0, after (mW f) (g.r B) (g.r A) 4⟩ : Out) = _
    rw [after0 h]
  rw [execF, if_neg (by decide), if_pos (by decide), hm, if_pos rfl]
theorem exec15 {g : G} {f : Nat → Nat} {A B : Nat} (h4 : g.r B % 4 = 0) (h : g.r B + 3 < 64) : execF g (mW f) 15 A B 0 = ⟨setR (nextG g) A (f (g.r B) + f (g.r B + 1) * 256 + f (g.r B + 2) * 65536 + f (g.r B + 3) * 16777216), 0, 0, mW f⟩ := by
  have hu : up ((nextG g).r B) (u32z 0) = g.r B := by show up (g.r B) 0 = _; exact up_zero (by omega)
  have hm : memF (nextG g) (mW f) 15 A B (u32z 0) = ⟨setR (nextG g) A (f (g.r B) + f (g.r B + 1) * 256 + f (g.r B + 2) * 65536 + f (g.r B + 3) * 16777216), 0, 0, mW f⟩ := by
    rw [memF, if_pos rfl, hu, fetch0 h4 h (by decide), if_pos rfl]
  rw [execF, if_neg (by decide), if_pos (by decide), hm, if_pos rfl]
theorem exec16 {g : G} {f : Nat → Nat} {A B : Nat} (h : g.r B + 3 < 64) : execF g (mW f) 16 A B 3 = ⟨setR (nextG g) A (f (g.r B + 3)), 0, 0, mW f⟩ := by
  have hu : up ((nextG g).r B) (u32z 3) = g.r B + 3 := by show up (g.r B) 3 = _; exact up0 h
  have hm : memF (nextG g) (mW f) 16 A B (u32z 3) = ⟨setR (nextG g) A (f (g.r B + 3)), 0, 0, mW f⟩ := by
    rw [memF, if_neg (by decide), if_pos rfl, hu, if_pos (can0 (by omega) (by decide)), byte0 (by omega)]
  rw [execF, if_neg (by decide), if_pos (by decide), hm, if_pos rfl]
/-- the registers and the room, step by step -/
def gS (g : G) (m : M) : Nat → G × M
  | 0 => (g, m)
  | n + 1 => ((stepF (gS g m n).1 (gS g m n).2).g, (stepF (gS g m n).1 (gS g m n).2).m)
def gW (w a : Nat) : G := setR (setR ⟨fun _ => 0, 0, 1⟩ 1 w) 2 a
theorem words_law {f : Nat → Nat} {w a : Nat} (hp : HasProg f) (hw : w < 4294967296) (h32 : 32 ≤ a) (h4 : a % 4 = 0) (h : a + 3 < 64) :
    (∀ i, i < 3 → (stepF (gS (gW w a) (mW f) i).1 (gS (gW w a) (mW f) i).2).t = 0) ∧ (gS (gW w a) (mW f) 3).1.r 3 = w ∧ (gS (gW w a) (mW f) 3).1.r 4 = w / 16777216 ∧ ∃ f3, (gS (gW w a) (mW f) 3).2 = mW f3 ∧ ∀ k, k < 64 → (k < a ∨ a + 3 < k) → f3 k = f k := by
  have e1 : stepF (gW w a) (mW f) = ⟨nextG (gW w a), 0, 0, mW (lay f a w)⟩ := by
    obtain ⟨a0, a1, a2, a3⟩ := hp.at0
    have hf : fetchF (mW f) (gW w a).pc 4 = (286392320, 0, 0) := by
      show fetchF (mW f) 0 4 = _
      rw [fetch0 rfl (by decide) (by decide), a0, a1, a2, a3]
    rw [stepF_of hf dec1 (by decide) (by decide)]
    exact exec17 (g := gW w a) (A := 1) (B := 2) h4 h
  have hl := hp.lay (a := a) (x := w) (by omega)
  have e2 : stepF (nextG (gW w a)) (mW (lay f a w)) = ⟨setR (nextG (nextG (gW w a))) 3 w, 0, 0, mW (lay f a w)⟩ := by
    obtain ⟨a0, a1, a2, a3⟩ := hl.at4
    have hf : fetchF (mW (lay f a w)) (nextG (gW w a)).pc 4 = (254935040, 0, 0) := by
      show fetchF (mW (lay f a w)) 4 4 = _
      rw [fetch0 rfl (by decide) (by decide), a0, a1, a2, a3]
    rw [stepF_of hf dec2 (by decide) (by decide)]
    refine (exec15 (g := nextG (gW w a)) (A := 3) (B := 2) h4 h).trans ?_
    have hx : lay f a w a + lay f a w (a + 1) * 256 + lay f a w (a + 2) * 65536 + lay f a w (a + 3) * 16777216 = w := by
      unfold lay
      simp
      omega
    show (⟨setR (nextG (nextG (gW w a))) 3 (lay f a w a + lay f a w (a + 1) * 256 + lay f a w (a + 2) * 65536 + lay f a w (a + 3) * 16777216), 0, 0, mW (lay f a w)⟩ : Out) = _
    rw [hx]
  have e3 : stepF (setR (nextG (nextG (gW w a))) 3 w) (mW (lay f a w)) = ⟨setR (nextG (setR (nextG (nextG (gW w a))) 3 w)) 4 (w / 16777216), 0, 0, mW (lay f a w)⟩ := by
    obtain ⟨a0, a1, a2, a3⟩ := hl.at8
    have hf : fetchF (mW (lay f a w)) (setR (nextG (nextG (gW w a))) 3 w).pc 4 = (272760835, 0, 0) := by
      show fetchF (mW (lay f a w)) 8 4 = _
      rw [fetch0 rfl (by decide) (by decide), a0, a1, a2, a3]
    rw [stepF_of hf dec3 (by decide) (by decide)]
    refine (exec16 (g := setR (nextG (nextG (gW w a))) 3 w) (A := 4) (B := 2) h).trans ?_
    have hx : lay f a w (a + 3) = w / 16777216 := by
      unfold lay
      simp
      omega
    show (⟨setR (nextG (setR (nextG (nextG (gW w a))) 3 w)) 4 (lay f a w (a + 3)), 0, 0, mW (lay f a w)⟩ : Out) = _
    rw [hx]
  have s1 : gS (gW w a) (mW f) 1 = (nextG (gW w a), mW (lay f a w)) := by
    show ((stepF (gW w a) (mW f)).g, (stepF (gW w a) (mW f)).m) = _
    rw [e1]
  have s2 : gS (gW w a) (mW f) 2 = (setR (nextG (nextG (gW w a))) 3 w, mW (lay f a w)) := by
    show ((stepF (gS (gW w a) (mW f) 1).1 (gS (gW w a) (mW f) 1).2).g, (stepF (gS (gW w a) (mW f) 1).1 (gS (gW w a) (mW f) 1).2).m) = _
    rw [s1, e2]
  have s3 : gS (gW w a) (mW f) 3 = (setR (nextG (setR (nextG (nextG (gW w a))) 3 w)) 4 (w / 16777216), mW (lay f a w)) := by
    show ((stepF (gS (gW w a) (mW f) 2).1 (gS (gW w a) (mW f) 2).2).g, (stepF (gS (gW w a) (mW f) 2).1 (gS (gW w a) (mW f) 2).2).m) = _
    rw [s2, e3]
  refine ⟨fun i hi => ?_, ?_, ?_, lay f a w, by rw [s3], fun k hk ho => ?_⟩
  · have : i = 0 ∨ i = 1 ∨ i = 2 := by omega
    rcases this with rfl | rfl | rfl
    · show (stepF (gW w a) (mW f)).t = 0
      rw [e1]
    · rw [s1]; show (stepF (nextG (gW w a)) (mW (lay f a w))).t = 0
      rw [e2]
    · rw [s2]; show (stepF (setR (nextG (nextG (gW w a))) 3 w) (mW (lay f a w))).t = 0
      rw [e3]
  · rw [s3]; rfl
  · rw [s3]; rfl
  · unfold lay
    rw [if_neg (by omega), if_neg (by omega), if_neg (by omega), if_neg (by omega)]
theorem gS_succ (g : G) (m : M) (n : Nat) : gS g m (n + 1) = ((stepF (gS g m n).1 (gS g m n).2).g, (stepF (gS g m n).1 (gS g m n).2).m) := rfl
theorem good_gW {w a : Nat} (hw : w < 4294967296) (ha : a < 4294967296) : Good (gW w a) := (Good.setR (g := setR ⟨fun _ => 0, 0, 1⟩ 1 w) (Good.setR (g := ⟨fun _ => 0, 0, 1⟩) ⟨fun _ => by show 0 < _; decide, by show 0 < _; decide⟩ hw 1) ha 2)
end Go.Proofs.Ytopadiofanaaiaa.CpuLaw
