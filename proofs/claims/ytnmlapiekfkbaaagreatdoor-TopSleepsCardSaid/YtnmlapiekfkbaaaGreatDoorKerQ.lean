/- The kernel with its processes: what holds of it, and what keeps it. No walk here. -/
import Derived.Test.YtnmlapiekfkbaaaGreatDoorSpA
import Derived.Test.YtnmlapiekfkbaaaGreatDoorKerU
namespace Go.Proofs.YtnmlapiekfkbaaaGreatDoor
open Go.RowKit
set_option linter.unusedVariables false
set_option linter.unusedSimpArgs false
/-- a wheel's timers as cells -/
def tmC (l : List (Int × Int)) : List Value := l.flatMap fun x => [.int .u32 x.1, .int .i64 x.2]
/-- a wheel: its struct in block b, its timers' rows -/
structure WhlG (w : World) (b : Nat) (nw : Int) (v : Value) (l : List (Int × Int)) : Prop where
  row : Row w b 150 #[.int .u32 nw, v]
  own : w.ownsRow 0 152 2 v l.length (tmC l)
  ne : v.ownBlock ≠ some b
/-- its blocks -/
def wB (b : Nat) (v : Value) (k : Nat) : Prop := k = b ∨ v.ownBlock = some k
theorem WhlG.upd {S : Nat → Prop} {w w' : World} {b : Nat} {nw : Int} {v : Value} {l : List (Int × Int)} (h : WhlG w b nw v l) (hu : Upd S w w') (hn : ∀ k, wB b v k → ¬ S k) : WhlG w' b nw v l := ⟨h.row.upd hu (hn _ (.inl rfl)), hu.owns h.own (fun k e => hn k (.inr e)), h.ne⟩
theorem WhlG.lt {w : World} {b : Nat} {nw : Int} {v : Value} {l : List (Int × Int)} (h : WhlG w b nw v l) {k : Nat} (hk : wB b v k) : k < w.heap.size := by
  rcases hk with rfl | e
  · exact h.row.lt
  · exact (h.own.lt k e).2
/-- where the kernel's parts lie -/
structure KC where
  K : Nat
  Wh : Nat
  Fi : Nat
  Pr : Nat
  R : Nat
  M : Nat
  so : Nat
/-- what they are -/
structure KSt where
  tag : Nat → Nat
  c : Nat → Value
  t : ProcLaw.T
  fs : Nat → OpenLaw.F
  fd : Nat → Nat
  ad : Option Addr
  cap : Nat
  l : List Tk
  m : MS
  cw : Nat → Option Nat
  nc : Nat
  tk : Int
  fr : Int
  sl : Int
  wn : Int
  wv : Value
  wl : List (Int × Int)
structure KT (w : World) (k : KC) (s : KSt) : Prop where
  kr : KR w k.K s.c
  c1 : s.c 1 = .pointer (some ⟨k.M, 0, none⟩)
  c4 : s.c 4 = .pointer (some ⟨k.R, 0, none⟩)
  c5 : s.c 5 = .pointer (some ⟨k.Wh, 0, none⟩)
  c6 : s.c 6 = .pointer (some ⟨k.Fi, 0, none⟩)
  c7 : s.c 7 = .pointer (some ⟨k.Pr, 0, none⟩)
  wh : WhlG w k.Wh s.wn s.wv s.wl
  fi : OpenLaw.OTab w k.Fi s.fs s.fd
  pr : ProcLaw.TabAt w k.Pr s.t
  ru : RunG w k.R s.ad s.cap s.nc s.tk (onePin s.nc) s.l
  me : MemG w k.M k.so s.fr s.sl s.m
  cw : ∀ p b, s.cw p = some b → (∃ cp, s.c (8 + p * 38 + 17) = .slice (some ⟨b, 0, none⟩) 1 cp) ∧ w.cell? ⟨b, 0, none⟩ = some (.int .i64 1) ∧ b < w.heap.size ∧ s.tag b = 7
  tK : s.tag k.K = 1
  tWh : ∀ j, wB k.Wh s.wv j → s.tag j = 2
  tFi : s.tag k.Fi = 3
  tPr : s.tag k.Pr = 4
  tR : ∀ j, rS k.R s.ad j → s.tag j = 5
  tM : ∀ j, mB k.M k.so s.m j → s.tag j = 6
  tz : ∀ j, w.heap.size ≤ j → s.tag j = 0
  cn : 1 ≤ s.nc ∧ s.nc ≤ 4
  fn : 4 ≤ s.fr ∧ s.fr ≤ 64 ∧ 0 ≤ s.sl ∧ s.sl ≤ 64
open Classical in
/-- tags behind a call that made blocks from B on: those of S bear i -/
noncomputable def tg (tag : Nat → Nat) (B : Nat) (S : Nat → Prop) (i : Nat) : Nat → Nat := fun j => if j < B then tag j else if S j then i else 0
theorem tg_old {tag : Nat → Nat} {B : Nat} {S : Nat → Prop} {i j : Nat} (h : j < B) : tg tag B S i j = tag j := if_pos h
theorem tg_new {tag : Nat → Nat} {B : Nat} {S : Nat → Prop} {i j : Nat} (h : B ≤ j) (hs : S j) : tg tag B S i j = i := by
  unfold tg
  rw [if_neg (by omega), if_pos hs]
theorem tg_no {tag : Nat → Nat} {B : Nat} {S : Nat → Prop} {i j : Nat} (h : B ≤ j) (hs : ¬ S j) : tg tag B S i j = 0 := by
  unfold tg
  rw [if_neg (by omega), if_neg hs]
/-- a state's blocks are those of before, or new ones -/
def FarT (tag0 : Nat → Nat) (B : Nat) (tag : Nat → Nat) : Prop := ∀ j, tag j ≠ 0 → tag0 j ≠ 0 ∨ B ≤ j
section
variable {w w' : World} {k : KC} {s : KSt}
theorem KT.lt (h : KT w k s) {j : Nat} (hj : s.tag j ≠ 0) : j < w.heap.size := by
  rcases Nat.lt_or_ge j w.heap.size with q | q
  · exact q
  · exact absurd (h.tz j q) hj
theorem KT.far (h : KT w k s) (B : Nat) : FarT s.tag B s.tag := fun j hj => .inl hj
theorem KT.upd {S : Nat → Prop} (h : KT w k s) (hu : Upd S w w') (hn : ∀ j, s.tag j ≠ 0 → ¬ S j) : KT w' k s := by
  have n : ∀ {j i}, s.tag j = i → i ≠ 0 → ¬ S j := fun e hi => hn _ (by rw [e]; exact hi)
  exact ⟨h.kr.upd hu (n h.tK (by decide)), h.c1, h.c4, h.c5, h.c6, h.c7, h.wh.upd hu (fun j hj => n (h.tWh j hj) (by decide)), h.fi.upd hu (n h.tFi (by decide)), h.pr.upd hu (n h.tPr (by decide)), h.ru.upd hu (n (h.tR _ (.inl rfl)) (by decide)) (fun a e => n (h.tR _ (.inr ⟨a, e, rfl⟩)) (by decide)), h.me.upd hu (fun j hj => n (h.tM j hj) (by decide)), fun p b hb => by
    obtain ⟨h1, h2, h3, h4⟩ := h.cw p b hb
    exact ⟨h1, (hu.cell h3 (n h4 (by decide))).trans h2, Nat.lt_of_lt_of_le h3 hu.size, h4⟩, h.tK, h.tWh, h.tFi, h.tPr, h.tR, h.tM, fun j hj => h.tz j (Nat.le_trans hu.size hj), h.cn, h.fn⟩
theorem KT.keep (h : KT w k s) (hb : Below w.heap.size w w') : KT w' k s := h.upd (S := fun _ => False) (Upd.below hb) (fun _ _ e => e)
/-- another memory -/
theorem KT.mem {m' : MS} (h : KT w k s) (hm : MemG w' k.M k.so s.fr s.sl m') (hu : Upd (mB k.M k.so s.m) w w') (hB : ∀ j, mB k.M k.so m' j → mB k.M k.so s.m j ∨ w.heap.size ≤ j) : KT w' k { s with m := m', tag := tg s.tag w.heap.size (mB k.M k.so m') 6 } := by
  have n : ∀ {j i}, s.tag j = i → i ≠ 6 → ¬ mB k.M k.so s.m j := fun e hi q => hi (e.symm.trans (h.tM _ q))
  have o : ∀ {j i}, s.tag j = i → i ≠ 0 → tg s.tag w.heap.size (mB k.M k.so m') 6 j = i := fun e hi => (tg_old (h.lt (by rw [e]; exact hi))).trans e
  exact ⟨h.kr.upd hu (n h.tK (by decide)), h.c1, h.c4, h.c5, h.c6, h.c7, h.wh.upd hu (fun j hj => n (h.tWh j hj) (by decide)), h.fi.upd hu (n h.tFi (by decide)), h.pr.upd hu (n h.tPr (by decide)), h.ru.upd hu (n (h.tR _ (.inl rfl)) (by decide)) (fun a e => n (h.tR _ (.inr ⟨a, e, rfl⟩)) (by decide)), hm, fun p b hb => by
    obtain ⟨h1, h2, h3, h4⟩ := h.cw p b hb
    exact ⟨h1, (hu.cell h3 (n h4 (by decide))).trans h2, Nat.lt_of_lt_of_le h3 hu.size, o h4 (by decide)⟩, o h.tK (by decide), fun j hj => o (h.tWh j hj) (by decide), o h.tFi (by decide), o h.tPr (by decide), fun j hj => o (h.tR j hj) (by decide), fun j hj => by
    rcases hB j hj with q | q
    · exact o (h.tM j q) (by decide)
    · exact tg_new q hj, fun j hj => tg_no (Nat.le_trans hu.size hj) (fun q => by have := hm.lt q; omega), h.cn, h.fn⟩
/-- another run -/
theorem KT.run {ad' : Option Addr} {cap' : Nat} {l' : List Tk} {tk' : Int} (h : KT w k s) (hr : RunG w' k.R ad' cap' s.nc tk' (onePin s.nc) l') (hu : Upd (rS k.R s.ad) w w') (hB : ∀ j, rS k.R ad' j → rS k.R s.ad j ∨ w.heap.size ≤ j) : KT w' k { s with ad := ad', cap := cap', l := l', tk := tk', tag := tg s.tag w.heap.size (rS k.R ad') 5 } := by
  have n : ∀ {j i}, s.tag j = i → i ≠ 5 → ¬ rS k.R s.ad j := fun e hi q => hi (e.symm.trans (h.tR _ q))
  have o : ∀ {j i}, s.tag j = i → i ≠ 0 → tg s.tag w.heap.size (rS k.R ad') 5 j = i := fun e hi => (tg_old (h.lt (by rw [e]; exact hi))).trans e
  exact ⟨h.kr.upd hu (n h.tK (by decide)), h.c1, h.c4, h.c5, h.c6, h.c7, h.wh.upd hu (fun j hj => n (h.tWh j hj) (by decide)), h.fi.upd hu (n h.tFi (by decide)), h.pr.upd hu (n h.tPr (by decide)), hr, h.me.upd hu (fun j hj => n (h.tM j hj) (by decide)), fun p b hb => by
    obtain ⟨h1, h2, h3, h4⟩ := h.cw p b hb
    exact ⟨h1, (hu.cell h3 (n h4 (by decide))).trans h2, Nat.lt_of_lt_of_le h3 hu.size, o h4 (by decide)⟩, o h.tK (by decide), fun j hj => o (h.tWh j hj) (by decide), o h.tFi (by decide), o h.tPr (by decide), fun j hj => by
    rcases hB j hj with q | q
    · exact o (h.tR j q) (by decide)
    · exact tg_new q hj, fun j hj => o (h.tM j hj) (by decide), fun j hj => tg_no (Nat.le_trans hu.size hj) (fun q => by
      rcases q with q | ⟨a, e, q⟩
      · have := hr.lt; omega
      · have := (hr.ltT e).1; omega), h.cn, h.fn⟩
/-- another wheel -/
theorem KT.whl {nw' : Int} {v' : Value} {l' : List (Int × Int)} (h : KT w k s) (hw : WhlG w' k.Wh nw' v' l') (hu : Upd (wB k.Wh s.wv) w w') (hB : ∀ j, wB k.Wh v' j → wB k.Wh s.wv j ∨ w.heap.size ≤ j) : KT w' k { s with wn := nw', wv := v', wl := l', tag := tg s.tag w.heap.size (wB k.Wh v') 2 } := by
  have n : ∀ {j i}, s.tag j = i → i ≠ 2 → ¬ wB k.Wh s.wv j := fun e hi q => hi (e.symm.trans (h.tWh _ q))
  have o : ∀ {j i}, s.tag j = i → i ≠ 0 → tg s.tag w.heap.size (wB k.Wh v') 2 j = i := fun e hi => (tg_old (h.lt (by rw [e]; exact hi))).trans e
  exact ⟨h.kr.upd hu (n h.tK (by decide)), h.c1, h.c4, h.c5, h.c6, h.c7, hw, h.fi.upd hu (n h.tFi (by decide)), h.pr.upd hu (n h.tPr (by decide)), h.ru.upd hu (n (h.tR _ (.inl rfl)) (by decide)) (fun a e => n (h.tR _ (.inr ⟨a, e, rfl⟩)) (by decide)), h.me.upd hu (fun j hj => n (h.tM j hj) (by decide)), fun p b hb => by
    obtain ⟨h1, h2, h3, h4⟩ := h.cw p b hb
    exact ⟨h1, (hu.cell h3 (n h4 (by decide))).trans h2, Nat.lt_of_lt_of_le h3 hu.size, o h4 (by decide)⟩, o h.tK (by decide), fun j hj => by
    rcases hB j hj with q | q
    · exact o (h.tWh j q) (by decide)
    · exact tg_new q hj, o h.tFi (by decide), o h.tPr (by decide), fun j hj => o (h.tR j hj) (by decide), fun j hj => o (h.tM j hj) (by decide), fun j hj => tg_no (Nat.le_trans hu.size hj) (fun q => by have := hw.lt q; omega), h.cn, h.fn⟩
/-- another table of processes -/
theorem KT.procs {t' : ProcLaw.T} (h : KT w k s) (hp : ProcLaw.TabAt w' k.Pr t') (hu : Upd (fun j => j = k.Pr) w w') : KT w' k { s with t := t' } := by
  have n : ∀ {j i}, s.tag j = i → i ≠ 4 → ¬ j = k.Pr := fun e hi q => hi (e.symm.trans (q ▸ h.tPr))
  exact ⟨h.kr.upd hu (n h.tK (by decide)), h.c1, h.c4, h.c5, h.c6, h.c7, h.wh.upd hu (fun j hj => n (h.tWh j hj) (by decide)), h.fi.upd hu (n h.tFi (by decide)), hp, h.ru.upd hu (n (h.tR _ (.inl rfl)) (by decide)) (fun a e => n (h.tR _ (.inr ⟨a, e, rfl⟩)) (by decide)), h.me.upd hu (fun j hj => n (h.tM j hj) (by decide)), fun p b hb => by
    obtain ⟨h1, h2, h3, h4⟩ := h.cw p b hb
    exact ⟨h1, (hu.cell h3 (n h4 (by decide))).trans h2, Nat.lt_of_lt_of_le h3 hu.size, h4⟩, h.tK, h.tWh, h.tFi, h.tPr, h.tR, h.tM, fun j hj => h.tz j (Nat.le_trans hu.size hj), h.cn, h.fn⟩
/-- another table of descriptors -/
theorem KT.files {fs' : Nat → OpenLaw.F} {fd' : Nat → Nat} (h : KT w k s) (hf : OpenLaw.OTab w' k.Fi fs' fd') (hu : Upd (fun j => j = k.Fi) w w') : KT w' k { s with fs := fs', fd := fd' } := by
  have n : ∀ {j i}, s.tag j = i → i ≠ 3 → ¬ j = k.Fi := fun e hi q => hi (e.symm.trans (q ▸ h.tFi))
  exact ⟨h.kr.upd hu (n h.tK (by decide)), h.c1, h.c4, h.c5, h.c6, h.c7, h.wh.upd hu (fun j hj => n (h.tWh j hj) (by decide)), hf, h.pr.upd hu (n h.tPr (by decide)), h.ru.upd hu (n (h.tR _ (.inl rfl)) (by decide)) (fun a e => n (h.tR _ (.inr ⟨a, e, rfl⟩)) (by decide)), h.me.upd hu (fun j hj => n (h.tM j hj) (by decide)), fun p b hb => by
    obtain ⟨h1, h2, h3, h4⟩ := h.cw p b hb
    exact ⟨h1, (hu.cell h3 (n h4 (by decide))).trans h2, Nat.lt_of_lt_of_le h3 hu.size, h4⟩, h.tK, h.tWh, h.tFi, h.tPr, h.tR, h.tM, fun j hj => h.tz j (Nat.le_trans hu.size hj), h.cn, h.fn⟩
/-- other cells of the kernel: those of tasks alone; a task's directory may be another block, which was nobody's -/
theorem KT.cells {c' : Nat → Value} {cw' : Nat → Option Nat} {tag' : Nat → Nat} (h : KT w k s) (hk : KR w' k.K c') (hu : Upd (fun j => j = k.K) w w') (hc : ∀ j, j < 8 → c' j = s.c j) (ht : ∀ j, s.tag j ≠ 0 → tag' j = s.tag j) (ht2 : ∀ j, w'.heap.size ≤ j → tag' j = 0)
    (hw : ∀ p b, cw' p = some b → (∃ cp, c' (8 + p * 38 + 17) = .slice (some ⟨b, 0, none⟩) 1 cp) ∧ w'.cell? ⟨b, 0, none⟩ = some (.int .i64 1) ∧ b < w'.heap.size ∧ tag' b = 7) : KT w' k { s with c := c', cw := cw', tag := tag' } := by
  have n : ∀ {j i}, s.tag j = i → i ≠ 1 → ¬ j = k.K := fun e hi q => hi (e.symm.trans (q ▸ h.tK))
  have o : ∀ {j i}, s.tag j = i → i ≠ 0 → tag' j = i := fun {j i} e hi => (ht j (by rw [e]; exact hi)).trans e
  exact ⟨hk, (hc 1 (by decide)).trans h.c1, (hc 4 (by decide)).trans h.c4, (hc 5 (by decide)).trans h.c5, (hc 6 (by decide)).trans h.c6, (hc 7 (by decide)).trans h.c7, h.wh.upd hu (fun j hj => n (h.tWh j hj) (by decide)), h.fi.upd hu (n h.tFi (by decide)), h.pr.upd hu (n h.tPr (by decide)), h.ru.upd hu (n (h.tR _ (.inl rfl)) (by decide)) (fun a e => n (h.tR _ (.inr ⟨a, e, rfl⟩)) (by decide)), h.me.upd hu (fun j hj => n (h.tM j hj) (by decide)), hw, o h.tK (by decide), fun j hj => o (h.tWh j hj) (by decide), o h.tFi (by decide), o h.tPr (by decide), fun j hj => o (h.tR j hj) (by decide), fun j hj => o (h.tM j hj) (by decide), ht2, h.cn, h.fn⟩
/-- what an answer may be, and how the state stands behind it -/
def KOut (B0 : Nat) (k : KC) (tag0 : Nat → Nat) (T : KSt → Int → Int → Int → Prop) (w : World) (X : Array Value) (w' : World) : Prop :=
  ∃ s e a b, KT w' k s ∧ FarT tag0 w.heap.size s.tag ∧ X = ansV e a b (.slice none 0 0) ∧ T s e a b ∧ Upd (fun j => tag0 j ≠ 0) w w'
theorem kout_ok {w0 : World} {tag0 : Nat → Nat} (hz : ∀ j, w0.heap.size ≤ j → tag0 j = 0) (T : KSt → Int → Int → Int → Prop) : OutOk w0 (KOut w0.heap.size k tag0 T) := by
  refine ⟨?_, ?_, ?_⟩
  · rintro w w1 w2 b C X h0 h1 ⟨s, e, a, r, hs, hf, hX, hT, hU⟩ hb hb1
    have z0 := h0.size
    have z1 := h1.size
    have u : Upd (fun k => k = b) w2 (w2.setRow b C) := Upd.setRow w2 C rfl
    refine ⟨s, e, a, r, hs.upd u (fun j hj q => ?_), fun j hj => ?_, hX, hT, ((Upd.below h1).trans hU).trans' u (fun i hi e => by omega)⟩
    · rcases hf j hj with e | e
      · exact e (hz j (by omega))
      · omega
    · exact (hf j hj).imp_right fun e => by omega
  · rintro w w1 w2 X h0 h1 ⟨s, e, a, r, hs, hf, hX, hT, hU⟩
    have z1 := h1.size
    exact ⟨s, e, a, r, hs, fun j hj => (hf j hj).imp_right fun e => by omega, hX, hT, (Upd.below h1).trans hU⟩
  · rintro w X w2 w3 ⟨s, e, a, r, hs, hf, hX, hT, hU⟩ hb
    exact ⟨s, e, a, r, hs.keep hb, hf, hX, hT, hU.trans (Upd.below hb)⟩
end
end Go.Proofs.YtnmlapiekfkbaaaGreatDoor
