/- Who knows what, and what holds it: in plain numbers. No program here. -/
import Derived.Test.YtgdihccmkleimaaLabelPlain
namespace Go.Proofs.Ytgdihccmkleimaa.LabelLaw

structure Act where
  who : Int
  what : Int
  write : Bool

abbrev lab0 : Lab := ⟨0, 0⟩
def at_ (l : List Lab) (i : Int) : Lab := l.getD i.toNat lab0
def inR (who what : List Lab) (a : Act) : Prop := 0 ≤ a.who ∧ a.who < who.length ∧ 0 ≤ a.what ∧ a.what < what.length
def doneB (who what : List Lab) (a : Act) : Bool := if a.write = true then flowsB (at_ who a.who) (at_ what a.what) else flowsB (at_ what a.what) (at_ who a.who)
def allOk (l : List Lab) : Prop := ∀ i, i < l.length → okL (l.getD i lab0) = true

theorem flows_trans {a b c : Lab} (ha : okL a = true) (hb : okL b = true) (hc : okL c = true) (h1 : flowsB a b = true) (h2 : flowsB b c = true) : flowsB a c = true := by
  have := (lattice ha hb hc).1
  rw [h1, h2] at this
  simpa using this
theorem flows_refl {a : Lab} (ha : okL a = true) : flowsB a a = true := by
  have := (lattice ha ha ha).2.1
  simp at this
  exact this

/-- what is known of who knows (K) and what holds (H) -/
structure Inv (who what : List Lab) (fr : Int) (K H : Nat → Bool) : Prop where
  k : ∀ j, K j = true → j < who.length ∧ flowsB (at_ what fr) (who.getD j lab0) = true
  h : ∀ j, H j = true → j < what.length ∧ flowsB (at_ what fr) (what.getD j lab0) = true
  fr : H fr.toNat = true

def upd (f : Nat → Bool) (i : Nat) (b : Bool) : Nat → Bool := fun j => if j = i then b else f j
theorem upd_same (f : Nat → Bool) (i : Nat) (b : Bool) : upd f i b i = b := by simp [upd]
theorem upd_other (f : Nat → Bool) {i j : Nat} (b : Bool) (h : j ≠ i) : upd f i b j = f j := by simp [upd, h]

section
variable {who what : List Lab} {fr : Int} {K H : Nat → Bool}
theorem inv_start (hw : allOk what) (h0 : 0 ≤ fr) (h1 : fr < what.length) : Inv who what fr (fun _ => false) (upd (fun _ => false) fr.toNat true) := by
  refine ⟨fun j h => absurd h (by simp), fun j h => ?_, upd_same _ _ _⟩
  by_cases hj : j = fr.toNat
  · subst hj; exact ⟨by omega, flows_refl (hw _ (by omega))⟩
  · rw [upd_other _ _ hj] at h; cases h
theorem inv_write (hi : Inv who what fr K H) (hk : allOk who) (hw : allOk what) {a : Act} (hin : inR who what a) (h0 : 0 ≤ fr) (h1 : fr < what.length) (hwr : a.write = true) (hd : doneB who what a = true) :
    Inv who what fr K (upd H a.what.toNat (H a.what.toNat || K a.who.toNat)) := by
  obtain ⟨i1, i2, i3, i4⟩ := hin
  refine ⟨hi.k, fun j h => ?_, ?_⟩
  · by_cases hj : j = a.what.toNat
    · subst hj
      rw [upd_same] at h
      cases hH : H a.what.toNat
      · rw [hH] at h
        simp at h
        obtain ⟨k1, k2⟩ := hi.k _ h
        refine ⟨by omega, ?_⟩
        rw [doneB, if_pos hwr] at hd
        exact flows_trans (hw _ (by omega)) (hk _ k1) (hw _ (by omega)) k2 hd
      · exact hi.h _ hH
    · rw [upd_other _ _ hj] at h; exact hi.h j h
  · by_cases hj : fr.toNat = a.what.toNat
    · rw [← hj, upd_same, hi.fr]; rfl
    · rw [upd_other _ _ hj]; exact hi.fr
theorem inv_read (hi : Inv who what fr K H) (hk : allOk who) (hw : allOk what) {a : Act} (hin : inR who what a) (h0 : 0 ≤ fr) (h1 : fr < what.length) (hwr : a.write = false) (hd : doneB who what a = true) :
    Inv who what fr (upd K a.who.toNat (K a.who.toNat || H a.what.toNat)) H := by
  obtain ⟨i1, i2, i3, i4⟩ := hin
  refine ⟨fun j h => ?_, hi.h, hi.fr⟩
  by_cases hj : j = a.who.toNat
  · subst hj
    rw [upd_same] at h
    cases hK : K a.who.toNat
    · rw [hK] at h
      simp at h
      obtain ⟨k1, k2⟩ := hi.h _ h
      refine ⟨by omega, ?_⟩
      rw [doneB, if_neg (by rw [hwr]; decide)] at hd
      exact flows_trans (hw _ (by omega)) (hw _ k1) (hk _ (by omega)) k2 hd
    · exact hi.k _ hK
  · rw [upd_other _ _ hj] at h; exact hi.k j h
end
end Go.Proofs.Ytgdihccmkleimaa.LabelLaw
