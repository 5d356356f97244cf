/- Who turns a mode, or an owner, may turn it back. In plain numbers. -/
import Derived.Test.YtddfgdodpjmjfaaModeSet
namespace Go.Proofs.Ytddfgdodpjmjfaa.CredLaw
open Go.RowKit

theorem mayR_fine {s t : S} {c : C} (h : (mayR s c 0).2 = 0) (hf : fineS t) : (mayR t c 0).2 = 0 := by
  have h1 := (mayR_ok h).1
  have := mayR_is (k := 0) h1 hf (by decide)
  rw [show ((0 : Nat) : Int) = 0 from rfl] at this
  rw [this]
theorem S_ext {s t : S} (h1 : s.kind = t.kind) (h2 : s.mode = t.mode) (h3 : s.user = t.user) (h4 : s.group = t.group) (h5 : s.size = t.size) (h6 : s.links = t.links) : s = t := by
  cases s; cases t; simp_all

theorem set_back (s : S) (c : C) (n : Int) : (setR s c n).2 ≠ 0 ∨ ((setR s c n).2 = 0 ∧ setR (setR s c n).1 c s.mode = (s, 0)) := by
  by_cases hz : (mayR s c 0).2 = 0
  · by_cases hn : 0 ≤ n ∧ n ≤ 511
    · by_cases hu : c.user = s.user ∨ capB c 4 = true
      · have e : setR s c n = ({ s with mode := n }, 0) := by rw [setR, if_pos hz, if_pos hn, if_pos hu]
        rw [e]
        refine .inr ⟨rfl, ?_⟩
        have hf := (mayR_ok hz).2.1
        have hf' : fineS { s with mode := n } := ⟨hn.1, hn.2, hf.2.2⟩
        show setR { s with mode := n } c s.mode = (s, 0)
        rw [setR, if_pos (mayR_fine hz hf'), if_pos ⟨hf.1, hf.2.1⟩, if_pos hu]
      · left; rw [setR, if_pos hz, if_pos hn, if_neg hu]; simp
    · left; rw [setR, if_pos hz, if_neg hn]; simp
  · left; rw [setR, if_neg hz]; exact hz

theorem own_back (s : S) (c : C) (user : Int) : ((ownR s c user s.group).2 ≠ 0 ∧ (ownR s c user s.group).1 = zeroS) ∨
    ((ownR s c user s.group).2 = 0 ∧ ((ownR (ownR s c user s.group).1 c s.user s.group).2 = 0 ∨ ((ownR (ownR s c user s.group).1 c s.user s.group).2 ≠ 0 ∧ capB c 4 = false ∧ (ownR s c user s.group).1.user ≠ c.user))) := by
  by_cases hz : (mayR s c 0).2 = 0
  · by_cases hn : (0 ≤ user ∧ user ≤ 99) ∧ 0 ≤ s.group ∧ s.group ≤ 99
    · by_cases hu : capB c 4 = true ∨ (c.user = s.user ∧ user = s.user ∧ (inC c s.group = true ∨ s.group = s.group))
      · have e : ownR s c user s.group = ({ s with user := user, group := s.group }, 0) := by rw [ownR, if_pos hz, if_pos hn, if_pos hu]
        rw [e]
        refine .inr ⟨rfl, .inl ?_⟩
        have hf := (mayR_ok hz).2.1
        have hf' : fineS { s with user := user, group := s.group } := ⟨hf.1, hf.2.1, hn.1.1, hn.1.2, hn.2.1, hn.2.2⟩
        show (ownR { s with user := user, group := s.group } c s.user s.group).2 = 0
        have hu' : capB c 4 = true ∨ (c.user = user ∧ s.user = user ∧ (inC c s.group = true ∨ s.group = s.group)) := by
          rcases hu with h | ⟨h1, h2, h3⟩
          · exact .inl h
          · exact .inr ⟨by rw [h1, h2], h2.symm, h3⟩
        rw [ownR, if_pos (mayR_fine hz hf'), if_pos ⟨⟨hf.2.2.1, hf.2.2.2.1⟩, hn.2⟩, if_pos hu']
      · left; rw [ownR, if_pos hz, if_pos hn, if_neg hu]; simp
    · left; rw [ownR, if_pos hz, if_neg hn]; simp
  · left; rw [ownR, if_neg hz]; exact ⟨hz, rfl⟩
end Go.Proofs.Ytddfgdodpjmjfaa.CredLaw
