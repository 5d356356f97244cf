/- The law's state: the kernel with one pipe, what was written, what was read. -/
import Derived.Test.YthdpeecahpedeaaGreatDoorPipeR
namespace Go.Proofs.YthdpeecahpedeaaGreatDoor
open Go.RowKit
set_option linter.unusedVariables false
set_option linter.unusedSimpArgs false
/-- n bytes are there at an address -/
def Src (w : World) (a : Option Addr) (c : Nat) (news : List Int) : Prop := (a = none → news = [] ∧ c = 0) ∧ ∀ ad, a = some ad → ∀ j u, (news.map u8V)[j]? = some u → w.cell? (ad.add j) = some u
theorem app_src {w : World} {B : Nat} {v : Value} {l : List Int} (h : OB B w v l) (hB : B ≤ w.heap.size) {a : Option Addr} {c : Nat} {news : List Int} (hs : Src w a c news) (h64 : l.length + news.length ≤ 100000000000) :
    ∃ p c' w', (Builtin.append_ #[28, 28] 28 #[v, .slice a news.length c]).run Tryz.prog w = .ok (.slice p (l.length + news.length) c') w' ∧ OB B w' (.slice p (l.length + news.length) c') (l ++ news) ∧ w.grownBy w' v.ownBlock ∧ New w v (.slice p (l.length + news.length) c') := by
  have core : ∃ v' w4, (Builtin.append_ #[28, 28] 28 #[v, .slice a news.length c]).run Tryz.prog w = .ok v' w4 ∧ OB B w4 v' (l ++ news) ∧ w.grownBy w4 v.ownBlock ∧ New w v v' := by
    obtain ⟨i0, hi, hz0, hz1, hz2⟩ := info_parts info5
    cases a with
    | none =>
      obtain ⟨rfl, rfl⟩ := hs.1 rfl
      exact ⟨v, w, run_append_owned_none (P := Tryz.prog) w B 28 28 5 i0 1 Tryz.underlying28 hi v l.length (l.map u8V) h, by rw [List.append_nil]; exact h, World.grownBy.refl _ _, .inl rfl⟩
    | some ad =>
      obtain ⟨v', w4, hr, ho, hg, hf⟩ := run_append_fresh (P := Tryz.prog) w B 28 28 5 i0 (.int .u8 0) 1 1 Tryz.underlying28 hi hz0 hz1 hz2 rfl (by decide) v l.length (l.map u8V) h ad news.length c (news.map u8V) (by simp) (hs.2 ad rfl) (u8V_one news) (by unfold maxLen; omega) (by omega) hB
      refine ⟨v', w4, hr, ?_, hg, ?_⟩
      · unfold OB
        rw [List.length_append, List.map_append]
        exact ho
      · rcases hf with e | ⟨g, hg, e⟩
        · exact .inl e
        · exact .inr ⟨g, hg, e⟩
  obtain ⟨v', w4, hr, ho, hg, hf⟩ := core
  obtain ⟨p, c', hv'⟩ := ho.form
  rw [List.length_append] at hv'
  subst hv'
  exact ⟨p, c', w4, hr, ho, hg, hf⟩
/-- the source that an own slice is -/
theorem src_own {w : World} {B k cp : Nat} {p : Option Addr} {dl : List Int} (h : OB B w (.slice p k cp) dl) : k = dl.length ∧ Src w p cp dl := by
  obtain ⟨p', cap, e⟩ := h.form
  injection e with e1 e2 e3
  subst e1 e2 e3
  refine ⟨rfl, ?_, ?_⟩
  · rintro rfl
    rcases h.2 with ⟨e, hn⟩ | ⟨g, c', cur, e, _⟩
    · injection e with _ e2 e3
      exact ⟨List.eq_nil_of_length_eq_zero hn, e3⟩
    · injection e with e1
      cases e1
  · rintro ad rfl j u hj
    have := h.at
    obtain ⟨a', c', e, _, _, hm⟩ := this
    injection e with e1
    rcases hm with q | ⟨b, off, q, _, hc⟩
    · subst q; simp at hj
    · rw [← e1] at q
      injection q with q
      subst q
      exact cells_u8 hc j u hj
theorem src_at {w : World} {a : Option Addr} {n c m : Nat} {bs : List Int} (h : At (Value.int .u8) 0 w (.slice a n c) bs) (hn0 : a = none → c = 0) : Src w a c (bs.take m) := by
  obtain ⟨a', c', e, _, _, hm⟩ := h
  injection e with e1 e2 e3
  subst e1 e3
  refine ⟨fun q => ⟨?_, hn0 q⟩, ?_⟩
  · rcases hm with z | ⟨b, off, z, _⟩
    · rw [z]; simp
    · rw [q] at z; cases z
  · rintro ad rfl j u hj
    rcases hm with q | ⟨b, off, q, _, hc⟩
    · subst q; simp at hj
    · injection q with q
      subst q
      refine cells_u8 hc j u ?_
      rw [List.getElem?_map] at hj ⊢
      rw [List.getElem?_take] at hj
      split at hj
      · exact hj
      · cases hj
section
variable {w wr w2 : World} {d8 : Value} {K Pr P Fi b8 : Nat} {c : Nat → Value} {s s' : St} {vi vo : Value} {li lo : List Int}
/-- a block that is none of the kernel's, nor the first answer's -/
def Off (K Pr P Fi b8 : Nat) (s : St) (g : Nat) : Prop := g ≠ K ∧ g ≠ Pr ∧ g ≠ P ∧ g ≠ Fi ∧ g ≠ s.O ∧ g ≠ b8 ∧ s.v.ownBlock ≠ some g
structure LB (w wr : World) (K Pr P Fi b8 : Nat) (c : Nat → Value) (d8 : Value) (s : St) (vi vo : Value) (li lo : List Int) : Prop where
  hb : Below w.heap.size w wr
  ps : PSt wr K Pr P Fi c s
  r8 : Row wr b8 33 (ansV 0 0 1 d8)
  oi : OB w.heap.size wr vi li
  oo : OB w.heap.size wr vo lo
  n8 : w.heap.size ≤ b8 ∧ b8 ≠ Fi ∧ b8 ≠ s.O ∧ s.v.ownBlock ≠ some b8
  ni : ∀ g, vi.ownBlock = some g → Off K Pr P Fi b8 s g
  no : ∀ g, vo.ownBlock = some g → Off K Pr P Fi b8 s g
  io : ∀ g, vi.ownBlock = some g → vo.ownBlock ≠ some g
  kb : w.heap.size ≤ K ∧ w.heap.size ≤ Pr ∧ w.heap.size ≤ P ∧ w.heap.size ≤ Fi ∧ w.heap.size ≤ s.O ∧ ∀ g, s.v.ownBlock = some g → w.heap.size ≤ g
/-- a call's step -/
theorem LB.step (h : LB w wr K Pr P Fi b8 c d8 s vi vo li lo) (hs : PSt w2 K Pr P Fi c s') (hu : Upd (fun k => k = Fi ∨ k = s.O ∨ s.v.ownBlock = some k) wr w2) (vn : VN wr.heap.size s s') : LB w w2 K Pr P Fi b8 c d8 s' vi vo li lo := by
  have z := h.hb.size
  have old : ∀ {g}, g < wr.heap.size → s.v.ownBlock ≠ some g → s'.v.ownBlock ≠ some g := fun {g} hg hn e => by
    rcases vn.2 g e with q | q
    · exact hn q
    · omega
  have off : ∀ {g}, g < wr.heap.size → Off K Pr P Fi b8 s g → Off K Pr P Fi b8 s' g := fun {g} hg ho => ⟨ho.1, ho.2.1, ho.2.2.1, ho.2.2.2.1, by rw [vn.1]; exact ho.2.2.2.2.1, ho.2.2.2.2.2.1, old hg ho.2.2.2.2.2.2⟩
  have nS : ∀ {g}, Off K Pr P Fi b8 s g → ¬ (g = Fi ∨ g = s.O ∨ s.v.ownBlock = some g) := fun {g} ho e => by
    rcases e with e | e | e
    · exact ho.2.2.2.1 e
    · exact ho.2.2.2.2.1 e
    · exact ho.2.2.2.2.2.2 e
  refine ⟨?_, hs, h.r8.upd hu ?_, h.oi.upd hu (fun g hg => nS (h.ni g hg)), h.oo.upd hu (fun g hg => nS (h.no g hg)), ⟨h.n8.1, h.n8.2.1, by rw [vn.1]; exact h.n8.2.2.1, old h.r8.lt h.n8.2.2.2⟩, fun g hg => off (h.oi.lt g hg).2 (h.ni g hg), fun g hg => off (h.oo.lt g hg).2 (h.no g hg), h.io, ⟨h.kb.1, h.kb.2.1, h.kb.2.2.1, h.kb.2.2.2.1, by rw [vn.1]; exact h.kb.2.2.2.2.1, fun g hg => ?_⟩⟩
  · refine h.hb.trans (hu.toBelow z ?_)
    rintro k hk (e | e | e)
    · have := h.kb.2.2.2.1; omega
    · have := h.kb.2.2.2.2.1; omega
    · have := h.kb.2.2.2.2.2 k e; omega
  · rintro (e | e | e)
    · exact h.n8.2.1 e
    · exact h.n8.2.2.1 e
    · exact h.n8.2.2.2 e
  · rcases vn.2 g hg with q | q
    · exact h.kb.2.2.2.2.2 g q
    · omega
theorem LB.keep (h : LB w wr K Pr P Fi b8 c d8 s vi vo li lo) (hb : Below wr.heap.size wr w2) : LB w w2 K Pr P Fi b8 c d8 s vi vo li lo :=
  h.step (h.ps.keep hb) (Upd.below hb) ⟨rfl, fun g hg => .inl hg⟩
theorem New.off {v v' : Value} {g : Nat} (hn : New w2 v v') (hg : v'.ownBlock = some g) {Q : Nat → Prop} (h1 : ∀ g, v.ownBlock = some g → Q g) (h2 : ∀ g, w2.heap.size ≤ g → Q g) : Q g := by
  rcases hn with e | ⟨g', hg', e⟩
  · exact h1 g (by rw [← e]; exact hg)
  · rw [e] at hg
    injection hg with hg
    exact h2 g (by omega)
theorem LB.fresh (h : LB w wr K Pr P Fi b8 c d8 s vi vo li lo) {g : Nat} (hg : wr.heap.size ≤ g) : Off K Pr P Fi b8 s g ∧ vi.ownBlock ≠ some g ∧ vo.ownBlock ≠ some g := by
  have o := h.ps.old
  unfold Old at o
  have oO := h.ps.pi.ol
  have o8 := h.r8.lt
  refine ⟨⟨by omega, by omega, by omega, by omega, by omega, by omega, fun e => ?_⟩, fun e => ?_, fun e => ?_⟩
  · have := (h.ps.pi.ob.lt g e).2; omega
  · have := (h.oi.lt g e).2; omega
  · have := (h.oo.lt g e).2; omega
theorem LB.base {B : Nat} (h : LB w wr K Pr P Fi b8 c d8 s vi vo li lo) {S : Nat → Prop} (hu : Upd S wr w2) (hS : ∀ k, S k → Off K Pr P Fi b8 s k) (hB : ∀ k, k < w.heap.size → ¬ S k) : Below w.heap.size w w2 ∧ PSt w2 K Pr P Fi c s ∧ Row w2 b8 33 (ansV 0 0 1 d8) := by
  refine ⟨h.hb.trans (hu.toBelow h.hb.size hB), h.ps.upd hu (fun e => (hS _ e).1 rfl) (fun e => (hS _ e).2.1 rfl) (fun e => (hS _ e).2.2.1 rfl) (fun e => (hS _ e).2.2.2.1 rfl) (fun e => (hS _ e).2.2.2.2.1 rfl) (fun g hg e => (hS _ e).2.2.2.2.2.2 hg), h.r8.upd hu (fun e => (hS _ e).2.2.2.2.2.1 rfl)⟩
/-- what was written, one write longer -/
theorem LB.appI (h : LB w wr K Pr P Fi b8 c d8 s vi vo li lo) {a : Option Addr} {cp : Nat} {news : List Int} (hs : Src wr a cp news) (h64 : li.length + news.length ≤ 100000000000) :
    ∃ p c' w', (Builtin.append_ #[28, 28] 28 #[vi, .slice a news.length cp]).run Tryz.prog wr = .ok (.slice p (li.length + news.length) c') w' ∧ LB w w' K Pr P Fi b8 c d8 s (.slice p (li.length + news.length) c') vo (li ++ news) lo := by
  obtain ⟨p, c', w', hr, ho, hg, hn⟩ := app_src h.oi h.hb.size hs h64
  have hu : Upd (fun k => vi.ownBlock = some k) wr w' := Upd.grown0 hg (fun b hb _ => hb)
  obtain ⟨b1, b2, b3⟩ := h.base (B := 0) hu h.ni (fun k hk e => by have := (h.oi.lt k e).1; omega)
  refine ⟨p, c', w', hr, b1, b2, b3, ho, h.oo.upd hu (fun g hg e => h.io g e hg), h.n8, fun g hg => hn.off hg h.ni (fun g hg => (h.fresh hg).1), h.no, fun g hg => hn.off hg h.io (fun g hg => (h.fresh hg).2.2), h.kb⟩
/-- what was read, one read longer -/
theorem LB.appO (h : LB w wr K Pr P Fi b8 c d8 s vi vo li lo) {a : Option Addr} {cp : Nat} {news : List Int} (hs : Src wr a cp news) (h64 : lo.length + news.length ≤ 100000000000) :
    ∃ p c' w', (Builtin.append_ #[28, 28] 28 #[vo, .slice a news.length cp]).run Tryz.prog wr = .ok (.slice p (lo.length + news.length) c') w' ∧ LB w w' K Pr P Fi b8 c d8 s vi (.slice p (lo.length + news.length) c') li (lo ++ news) := by
  obtain ⟨p, c', w', hr, ho, hg, hn⟩ := app_src h.oo h.hb.size hs h64
  have hu : Upd (fun k => vo.ownBlock = some k) wr w' := Upd.grown0 hg (fun b hb _ => hb)
  obtain ⟨b1, b2, b3⟩ := h.base (B := 0) hu h.no (fun k hk e => by have := (h.oo.lt k e).1; omega)
  refine ⟨p, c', w', hr, b1, b2, b3, h.oi.upd hu (fun g hg e => h.io g hg e), ho, h.n8, h.ni, fun g hg => hn.off hg h.no (fun g hg => (h.fresh hg).1), fun g hg e => hn.off e (Q := fun g => vi.ownBlock ≠ some g) (fun g hg e => h.io g e hg) (fun g hg => (h.fresh hg).2.1) hg, h.kb⟩
end
end Go.Proofs.YthdpeecahpedeaaGreatDoor
