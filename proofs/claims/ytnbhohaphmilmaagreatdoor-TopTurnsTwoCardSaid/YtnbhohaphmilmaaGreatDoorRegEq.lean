/- The kernel while programs have their turns: its state, and what each call makes of it. No walk here. The walk of ringtop.rvTurn. What a play of ringtop.TopTurnsTwo writes down: the registers of each process behind each of its steps. No walk here. Registers compared. -/
import Derived.Test.YtnbhohaphmilmaaGreatDoorAlE
import Derived.Test.YtnbhohaphmilmaaGreatDoorTpF
import Derived.Test.YtnbhohaphmilmaaGreatDoorCpuRow
import Derived.Laws.StructEq
import Derived.WalkSpells
import Derived.ChangeKeysEq
namespace Go.Proofs.YtnbhohaphmilmaaGreatDoor
open Go.RowKit
set_option linter.unusedVariables false
set_option linter.unusedSimpArgs false
/-- whom the tasks stand for -/
def IdOk (N : Nat) (l : List Tk) : Prop := ∀ (i : Nat) (x : Tk), l[i]? = some x → ∃ p : Nat, x.t = p ∧ 1 ≤ p ∧ p ≤ N
theorem IdOk.same {N : Nat} {l l' : List Tk} (h : IdOk N l) (hs : SameV l l') : IdOk N l' := fun i x hx => by
  obtain ⟨y, hy, e, -, -⟩ := hs.2 i x hx
  rw [← e]
  exact h i y hy
theorem IdOk.tick {N : Nat} {l : List Tk} (h : IdOk N l) (c : Int) (m : Nat) : IdOk N (tickL l c m) := by
  unfold tickL
  cases ho : onG l c with
  | none => exact h.same (fillG_same l m)
  | some i =>
    refine IdOk.same ?_ (fillG_same _ m)
    obtain ⟨x, hx, -⟩ := onG_some ho
    unfold stepAt
    rw [hx]
    intro j y hy
    have hy : (l.set i { x with v := x.v + 104857, cpu := -1 })[j]? = some y := hy
    rw [List.getElem?_set] at hy
    split at hy
    · split at hy
      · injection hy with hy
        subst hy
        exact h i x hx
      · cases hy
    · exact h j y hy
theorem IdOk.all {N : Nat} {l : List Tk} (h : IdOk N l) (m : Nat) : ∀ c : Nat, IdOk N (tickAll l m c)
  | 0 => h
  | c + 1 => (h.all m c).tick c m
theorem IdOk.enter {N : Nat} {l : List Tk} (h : IdOk N l) (m : Nat) : IdOk (N + 1) (enterL l ((N + 1 : Nat) : Int) m) := by
  unfold enterL
  refine IdOk.same ?_ (fillG_same _ m)
  intro i x hx
  rcases Nat.lt_or_ge i l.length with q | q
  · rw [List.getElem?_append_left q] at hx
    obtain ⟨p, e, p1, p2⟩ := h i x hx
    exact ⟨p, e, p1, by omega⟩
  · rw [List.getElem?_append_right q] at hx
    have e0 : i - l.length = 0 := by
      rcases Nat.eq_zero_or_pos (i - l.length) with e | e
      · exact e
      · rw [List.getElem?_eq_none (by simp; omega)] at hx; cases hx
    rw [e0] at hx
    injection hx with hx
    subst hx
    exact ⟨N + 1, rfl, by omega, Nat.le_refl _⟩
theorem id_entered (nc : Nat) : ∀ n, IdOk (n + 1) (entered nc n)
  | 0 => fun i x hx => by
    match i, hx with
    | 0, hx => injection hx with hx; subst hx; exact ⟨1, rfl, by decide, by decide⟩
  | n + 1 => (id_entered nc n).enter nc
theorem stP_at {l : List CodeLaw.Ins} {s : PS} {x : CodeLaw.Ins} {A B : Nat} (hx : l[s.g.pc / 4]? = some x) (hi : InsOk x A B) : stP l s = ⟨(CpuLaw.stI x.op A B x.c s.g s.d).1, (CpuLaw.stI x.op A B x.c s.g s.d).2⟩ := by
  have ea : x.a.toNat = A := by rw [hi.ea]; omega
  have eb : x.b.toNat = B := by rw [hi.eb]; omega
  unfold stP
  rw [hx]
  show (⟨(CpuLaw.stI x.op x.a.toNat x.b.toNat x.c s.g s.d).1, (CpuLaw.stI x.op x.a.toNat x.b.toNat x.c s.g s.d).2⟩ : PS) = _
  rw [ea, eb]
theorem insW_dec {x : CodeLaw.Ins} {A B : Nat} (hi : InsOk x A B) : CodeLaw.decR (insW x : Nat) = (⟨x.op, A, B, x.c⟩, 0) := by
  obtain ⟨⟨h0, -⟩, h1⟩ := CodeLaw.back hi.enc
  have e : ((insW x : Nat) : Int) = (CodeLaw.encI x).1 := by unfold insW; omega
  rw [e, h1, ← hi.ea, ← hi.eb]
section
variable {m : MS} {N : Nat} {P : Nat → List CodeLaw.Ins} {D : Nat → Nat → Nat}
theorem MpA.held (h : MpA m N P D) (h' : Nat → Bool) : MpA { m with h := h' } N P D :=
  ⟨fun p p1 p2 => by
    obtain ⟨b, q1, q2⟩ := h.S p p1 p2
    exact ⟨b, q1, q2.keep rfl rfl (fun k g r e => ⟨(q2.pg k g r e).2.2.1, rfl, rfl⟩)⟩, h.S0, h.nS, h.len, h.nF1, h.ap⟩
theorem MpA.congr {D' : Nat → Nat → Nat} (h : MpA m N P D) (e : ∀ p, 1 ≤ p → p ≤ N → D' p = D p) : MpA m N P D' :=
  ⟨fun p p1 p2 => by rw [e p p1 p2]; exact h.S p p1 p2, h.S0, h.nS, h.len, h.nF1, h.ap⟩
/-- a page of data is written -/
theorem MpA.data {p b g4 : Nat} {d' : Nat → Nat} (h : MpA m N P D) (p1 : 1 ≤ p) (p2 : p ≤ N) (hS : m.S p = some b) (f4 : m.F b 4 = some (g4, 3)) : MpA (m.dat g4 (fun i => (d' i : Int))) N P (fup D p d') := by
  refine ⟨fun q q1 q2 => ?_, h.S0, h.nS, h.len, h.nF1, h.ap⟩
  obtain ⟨b', a1, a2⟩ := h.S q q1 q2
  refine ⟨b', a1, ?_⟩
  by_cases e : q = p
  · subst e
    rw [hS] at a1
    injection a1 with a1
    subst a1
    rw [fup_same]
    refine ⟨a2.lone, a2.pg, a2.nF, fun i x hx => CpuLaw.word_dat (a2.wd i x hx) f4 a2.lone, ⟨g4, f4, fup_same _ _ _⟩⟩
  · rw [fup_off _ _ e]
    refine a2.keep rfl rfl (fun k g r e1 => ⟨(a2.pg k g r e1).2.2.1, ?_, rfl⟩)
    have hne : g ≠ g4 := fun eg => by
      subst eg
      exact h.ap q p b' b k 4 g r 3 q1 q2 p1 p2 e a1 hS e1 f4
    exact fup_off _ _ hne
end
/-- the kernel behind some turns: how many each process has had -/
structure Tz (s : KSt) (nc N nt : Nat) (P : Nat → List CodeLaw.Ins) (cnt : Nat → Nat) : Prop where
  cp : s.nc = nc
  c0 : s.c 0 = .int .i64 nc
  c9 : s.c 654 = .int .u32 nt
  wv : s.wv = .slice none 0 0
  wl : s.wl = []
  wn0 : 0 ≤ s.wn
  wn1 : s.wn ≤ nt
  t0 : 0 ≤ s.tk
  t1 : s.tk ≤ nt * 4
  vk : VOk ((nt : Int) * 419428) s.l
  ids : IdOk N s.l
  fr : s.fr = 48
  sl : s.sl = 8
  ps : ∀ p, 1 ≤ p → p ≤ N → TurnA s p (runP (P p) (cnt p)).g p
  mp : MpA s.m N P (fun p => (runP (P p) (cnt p)).d)
section
variable {w : World} {k : KC} {s : KSt} {nc N nt : Nat} {P : Nat → List CodeLaw.Ins} {cnt : Nat → Nat}
theorem Ks.tz (h : Ks s nc N) (hm : MpA s.m N P noD) (N1 : 1 ≤ N) (N6 : N ≤ 6) (n1 : 1 ≤ nc) (n4 : nc ≤ 4) : Tz s nc N 0 P (fun _ => 0) := by
  obtain ⟨n, rfl⟩ : ∃ n, N = n + 1 := ⟨N - 1, by omega⟩
  refine ⟨h.cp, h.c0, h.c9, h.wv, h.wl, by rw [h.wn]; decide, by rw [h.wn]; decide, by rw [h.tk]; decide, by rw [h.tk]; decide, by rw [h.l]; exact (entered_ok n1 n4 (by omega)).2.1.mono (by decide), by rw [h.l]; exact id_entered nc n, h.fr, h.sl, fun p p1 p2 => ?_, hm⟩
  have g := h.ps p p1 p2
  refine ⟨g.aw, ?_, g.sp⟩
  have e : (runP (P p) 0).g = gOf 0 := by
    show (⟨fun _ => 0, 0, 1⟩ : CpuLaw.G) = _
    unfold gOf
    simp only [CpuLaw.G.mk.injEq]
    exact ⟨by funext i; by_cases e : i = 1 <;> simp [e], by simp, trivial⟩
  rw [e]
  exact g.rg
theorem Tz.turned (h : Tz s nc N nt P cnt) {p : Nat} (p1 : 1 ≤ p) (p2 : p ≤ N) {m' : MS} {h' : Nat → Bool} {tag' : Nat → Nat} (hm : MpA { m' with h := h' } N P (fun q => (runP (P q) (if q = p then cnt q + 1 else cnt q)).d)) : Tz { s with c := putRg s.c (8 + p * 38 + 1) (runP (P p) (cnt p + 1)).g, m := { m' with h := h' }, tag := tag' } nc N nt P (fun q => if q = p then cnt q + 1 else cnt q) := by
  have p16 := (h.ps p p1 p2).aw.p16
  have hout : ∀ j, (j < 8 + p * 38 + 1 ∨ 8 + p * 38 + 11 ≤ j) → putRg s.c (8 + p * 38 + 1) (runP (P p) (cnt p + 1)).g j = s.c j := fun j hj => by unfold putRg; rw [if_neg (by omega)]
  refine ⟨h.cp, (hout 0 (by omega)).trans h.c0, (hout 654 (by omega)).trans h.c9, h.wv, h.wl, h.wn0, h.wn1, h.t0, h.t1, h.vk, h.ids, h.fr, h.sl, fun q q1 q2 => ?_, hm⟩
  have g := h.ps q q1 q2
  refine ⟨⟨q1, g.aw.p16, g.aw.lv, (hout _ (by omega)).trans g.aw.sl, fun j hj => (hout _ (by omega)).trans (g.aw.sg j hj)⟩, fun j hj => ?_, (hout _ (by omega)).trans g.sp⟩
  by_cases e : q = p
  · subst e
    rw [if_pos rfl]
    show putRg s.c (8 + q * 38 + 1) _ (8 + q * 38 + 1 + j) = _
    unfold putRg
    rw [if_pos (by omega), show 8 + q * 38 + 1 + j - (8 + q * 38 + 1) = j by omega]
  · rw [if_neg e]
    exact (hout _ (by omega)).trans (g.rg j hj)
/-- a processor's step: one process has had one more turn, or nobody -/
theorem tstep_is (h : KT w k s) (hr : Tz s nc N nt P cnt) (hP : ∀ p, PrgA (P p)) (N6 : N ≤ 6) {c : Nat} (hc : c < nc) :
    Calls Tryz.prog 16 #[.pointer (some ⟨k.K, 0, none⟩), .int .i64 c] w fun e w' => (e = .returned (.tuple #[.int .i64 0, .agg #[.int .i64 5, .int .u32 0]]) ∧ ∃ s', KG s k w w' s' ∧ Tz s' nc N nt P cnt) ∨ ∃ p : Nat, 1 ≤ p ∧ p ≤ N ∧ e = .returned (.tuple #[.int .i64 p, .agg #[.int .i64 0, .int .u32 0]]) ∧ ∃ s', KG s k w w' s' ∧ Tz s' nc N nt P (fun q => if q = p then cnt q + 1 else cnt q) := by
  have hc' : c < s.nc := by rw [hr.cp]; exact hc
  cases ho : onG s.l c with
  | none =>
    refine (kstep_no h hc' ho).mono ?_
    rintro e w' ⟨rfl, hb⟩
    exact .inl ⟨rfl, s, h.start.keep hb, hr⟩
  | some i =>
    obtain ⟨x, hx, -⟩ := onG_some ho
    obtain ⟨p, hp, p1, p2⟩ := hr.ids i x hx
    have g := hr.ps p p1 p2
    obtain ⟨b, hb, hsp⟩ := hr.mp.S p p1 p2
    obtain ⟨g4, f4, hd4⟩ := hsp.dat
    have hlen : (s.m.pl.length : Int) ≤ s.fr := by rw [hr.fr]; have := hr.mp.len; omega
    have hok := runP_ok (hP p) (cnt p)
    obtain ⟨y, hy⟩ : ∃ y, (P p)[(runP (P p) (cnt p)).g.pc / 4]? = some y := ⟨_, List.getElem?_eq_getElem hok.lt⟩
    obtain ⟨A, B, hi, -⟩ := (hP p).at' _ y hy
    have hst := stP_at hy hi
    have hown : CpuLaw.Own4 s.m p b g4 s.fr s.sl := ⟨hb, wf_small (by omega), hlen, f4, (hsp.pg 4 g4 3 f4).2.2.1, (hsp.pg 4 g4 3 f4).2.2.2, hsp.lone, by rw [hr.fr]; decide, by rw [hr.sl]; decide⟩
    have hself : s.m.dat g4 (fun i => ((runP (P p) (cnt p)).d i : Int)) = s.m := by
      unfold MS.dat
      rw [fup_id s.m.d g4 _ hd4]
    have hwd := hsp.wd _ y hy
    rw [show 4 * ((runP (P p) (cnt p)).g.pc / 4) = (runP (P p) (cnt p)).g.pc by have := hok.pc4; omega] at hwd
    refine (kstep_any h hc' ho hx hp (g := (runP (P p) (cnt p)).g) (g' := (stP (P p) (runP (P p) (cnt p))).g) (s1 := p) (m' := s.m.dat g4 (fun i => ((stP (P p) (runP (P p) (cnt p))).d i : Int))) g ⟨rfl, rfl, rfl⟩ (fun wx hq => ?_)).mono ?_
    · have hq2 : CpuLaw.DQ k.M k.so s.fr s.sl s.m g4 (runP (P p) (cnt p)).d wx := by
        unfold CpuLaw.DQ
        rw [hself]
        exact hq
      have := CpuLaw.bstep_is (CpuLaw.kbus_is hown) hq2 hwd (insW_dec hi) hi.ok hok.r0 hok.dl hok.rl
      rw [hst]
      exact this
    · rintro e w' ⟨rfl, h', tag', hg⟩
      refine .inr ⟨p, p1, p2, rfl, _, hg, hr.turned p1 p2 ?_⟩
      refine ((hr.mp.data (d' := (stP (P p) (runP (P p) (cnt p))).d) p1 p2 hb f4).congr (fun q q1 q2 => ?_)).held h'
      by_cases e : q = p
      · subst e
        rw [fup_same, if_pos rfl]
        rfl
      · rw [fup_off _ _ e, if_neg e]
/-- the clock's tick -/
theorem ttick_is (h : KT w k s) (hr : Tz s nc N nt P cnt) (n4 : nc ≤ 4) (ht : nt < 1000) :
    Calls Tryz.prog 17 #[.pointer (some ⟨k.K, 0, none⟩)] w fun e w' => e = .returned (.tuple #[]) ∧ ∃ s', KG s k w w' s' ∧ Tz s' nc N (nt + 1) P cnt := by
  refine (ktick_is h (nw := nt) (b := (nt : Int) * 419428) ⟨by rw [hr.cp]; exact hr.c0, hr.c9, hr.wv, hr.wl, hr.wn0, hr.wn1, by omega, hr.t0, by have := hr.t1; omega, hr.vk, by omega⟩).mono ?_
  rintro e w' ⟨rfl, tag', hg⟩
  have hout : ∀ j, j ≠ 654 → upV s.c 654 (.int .u32 ((nt : Int) + 1)) j = s.c j := fun j hj => if_neg hj
  refine ⟨rfl, _, hg, ⟨hr.cp, (hout 0 (by decide)).trans hr.c0, ?_, hr.wv, hr.wl, by show 0 ≤ (nt : Int) + 1; omega, by show (nt : Int) + 1 ≤ ((nt + 1 : Nat) : Int); omega, by show 0 ≤ s.tk + s.nc; have := hr.t0; omega, ?_, ?_, hr.ids.all _ _, hr.fr, hr.sl, fun q q1 q2 => ?_, hr.mp⟩⟩
  · show upV s.c 654 (.int .u32 ((nt : Int) + 1)) 654 = .int .u32 ((nt + 1 : Nat) : Int)
    unfold upV
    rw [if_pos rfl]
    rfl
  · show s.tk + s.nc ≤ ((nt + 1 : Nat) : Int) * 4
    have := hr.t1
    rw [hr.cp]
    push_cast
    omega
  · have hv := hr.vk.all s.nc s.nc
    refine hv.mono ?_
    rw [hr.cp]
    have : (nc : Int) * 104857 ≤ 4 * 104857 := Int.mul_le_mul_of_nonneg_right (by omega) (by decide)
    push_cast
    omega
  · have g := hr.ps q q1 q2
    have p16 := g.aw.p16
    exact ⟨⟨q1, g.aw.p16, g.aw.lv, (hout _ (by omega)).trans g.aw.sl, fun j hj => (hout _ (by omega)).trans (g.aw.sg j hj)⟩, fun j hj => (hout _ (by omega)).trans (g.rg j hj), (hout _ (by omega)).trans g.sp⟩
/-- memory is taken back -/
theorem treclaim_is (h : KT w k s) (hr : Tz s nc N nt P cnt) {n : Int} (h0 : 0 ≤ n) (h1 : n ≤ 1000) :
    Calls Tryz.prog 19 #[.pointer (some ⟨k.M, 0, none⟩), .int .i64 n] w fun e w' => (∃ v, e = .returned (.int .i64 v)) ∧ ∃ s', KG s k w w' s' ∧ Tz s' nc N nt P cnt := by
  refine (reclaim_is (so := k.so) (fr := s.fr) (sl := s.sl) (m := s.m) ⟨s.m.h, h.me⟩ h0 h1).mono ?_
  rintro e w' ⟨he, ⟨h', hm⟩, hu⟩
  refine ⟨he, _, h.start.mem (m' := { s.m with h := h' }) hm (hu.mono fun j _ e => by
    rcases e with e | e
    · exact .inl e
    · exact .inr (.inr (.inr (.inr e)))) (fun j e => .inl e), ⟨hr.cp, hr.c0, hr.c9, hr.wv, hr.wl, hr.wn0, hr.wn1, hr.t0, hr.t1, hr.vk, hr.ids, hr.fr, hr.sl, fun q q1 q2 => ?_, hr.mp.held h'⟩⟩
  have g := hr.ps q q1 q2
  exact ⟨⟨g.aw.p1, g.aw.p16, g.aw.lv, g.aw.sl, g.aw.sg⟩, g.rg, g.sp⟩
/-- the registers of a process -/
theorem tregs_is (h : KT w k s) (hr : Tz s nc N nt P cnt) {p : Nat} (p1 : 1 ≤ p) (p2 : p ≤ N) : Calls Tryz.prog 9 #[.pointer (some ⟨k.K, 0, none⟩), .int .i64 p] w fun e w' => e = .returned (.tuple #[.agg (CpuLaw.cellsA (runP (P p) (cnt p)).g), .int .i64 0]) ∧ Below w.heap.size w w' :=
  regs_is h p1 (hr.ps p p1 p2).aw.p16 (hr.ps p p1 p2).aw.lv (hr.ps p p1 p2).rg
end
end Go.Proofs.YtnbhohaphmilmaaGreatDoor
namespace Go.Proofs.YtnbhohaphmilmaaGreatDoor
open Go.RowKit
set_option linter.unusedVariables false
set_option linter.unusedSimpArgs false
def bmp (cnt : Nat → Nat) (p : Nat) : Nat → Nat := fun q => if q = p then cnt q + 1 else cnt q
theorem Tz.congr {s : KSt} {nc N nt : Nat} {P : Nat → List CodeLaw.Ins} {cnt cnt' : Nat → Nat} (h : Tz s nc N nt P cnt) (e : ∀ p, 1 ≤ p → p ≤ N → cnt' p = cnt p) : Tz s nc N nt P cnt' :=
  ⟨h.cp, h.c0, h.c9, h.wv, h.wl, h.wn0, h.wn1, h.t0, h.t1, h.vk, h.ids, h.fr, h.sl, fun p p1 p2 => by rw [e p p1 p2]; exact h.ps p p1 p2, h.mp.congr fun p p1 p2 => by rw [e p p1 p2]⟩
theorem Tz.zero {s : KSt} {nc N nt : Nat} {P : Nat → List CodeLaw.Ins} {cnt : Nat → Nat} (h : Tz s nc N nt P cnt) : Tz s nc N nt P (bmp cnt 0) := h.congr fun p p1 p2 => if_neg (by omega)
theorem tr_new (w : World) (k : Int) : (stR 64 (.pointer (some ⟨w.heap.size, 0, none⟩)) (.agg #[.int .i64 k, .int .u32 0])).run Tryz.prog (w.alloc (.cells #[.int .i64 0, .int .u32 0] 64)) = .ok () (w.alloc (.cells #[.int .i64 k, .int .u32 0] 64)) := by
  have := st0_new w (T := 64) (c := #[.int .i64 0, .int .u32 0]) (cs := #[.int .i64 k, .int .u32 0]) rfl (by kernel_rfl) (by simp [Value.oneCell'])
  exact this
section
variable {w : World} {k : KC} {s : KSt} {nc N nt : Nat} {P : Nat → List CodeLaw.Ins} {cnt : Nat → Nat}
/-- behind a turn -/
def TOut (w w' : World) (k : KC) (s : KSt) (nc N nt : Nat) (P : Nat → List CodeLaw.Ins) (cnt : Nat → Nat) (p : Nat) : Prop := ∃ s' nt', nt' ≤ nt + 1 ∧ KG s k w w' s' ∧ Tz s' nc N nt' P (bmp cnt p)
theorem TOut.keep {w1 w2 : World} {p : Nat} (h : TOut w w1 k s nc N nt P cnt p) (hb : Below w1.heap.size w1 w2) : TOut w w2 k s nc N nt P cnt p := by
  obtain ⟨s', nt', h1, h2, h3⟩ := h
  exact ⟨s', nt', h1, h2.keep hb, h3⟩
attribute [local go_sem ↓] st_tr
set_option maxRecDepth 100000 in
set_option maxHeartbeats 2000000 in
theorem rvturn_is (h : KT w k s) (hr : Tz s nc N nt P cnt) (hP : ∀ p, PrgA (P p)) (N6 : N ≤ 6) (n1 : 1 ≤ nc) (n4 : nc ≤ 4) (ht : nt < 1000) (t : Int) :
    Calls Tryz.prog 8 #[.pointer (some ⟨k.K, 0, none⟩), .int .i64 nc, .int .i64 t] w fun e w' => ∃ p : Nat, p ≤ N ∧ e = .returned (.tuple #[.int .i64 p, .bool true]) ∧ TOut w w' k s nc N nt P cnt p := by
  have HH := Lib.hid h
  have HST := Lib.hid (fun (c : Nat) (hc : c < nc) => tstep_is h hr hP N6 hc)
  have HTK := Lib.hid (ttick_is h hr n4 ht)
  have HRC := Lib.hid (fun (n : Nat) (hn : (n : Int) < 6) => treclaim_is h hr (n := (n : Int)) (by omega) (by omega))
  have HME := Lib.hid (kmem_is h)
  have n0 : (0 : Int) < nc := by omega
  have n9 : (nc : Int) < 1000 := by omega
  clear h hr hP N6 n1 n4 ht
  go_enter Tryz.func8, Tryz.ntmps8
  go_upto_region 3 with (go_at_call 6; refine (rest_is _ _ (by decide) (by decide)).mono ?_; rintro e1 w1 ⟨n, (hn : (n : Int) < 16), rfl, rfl⟩)
  by_cases h9 : (n : Int) < 9
  · go_upto_region 5 with (first | (go_at_call 6; refine (rest_is _ _ n0 n9).mono ?_; rintro e2 w2 ⟨c, hc, rfl, rfl⟩) | (go_at_call 16; refine (HST.out _ (by omega)).mono ?_; rintro e3 w3 (⟨rfl, s', hg, hz⟩ | ⟨p, p1, p2, rfl, s', hg, hz⟩) <;> (have hst := tr_new w3 5; have hst2 := tr_new w3 0; have HO := Lib.hid (And.intro hg hz); clear hg hz)))
    · have c0 : (w3.alloc (.cells #[.int .i64 5, .int .u32 0] 64)).cell? ⟨w3.heap.size, 0, none⟩ = some (.int .i64 5) := cells_new w3 [.int .i64 5, .int .u32 0] 64 0 _ rfl
      have HB : Hid (Below w3.heap.size w3 (w3.alloc (.cells #[.int .i64 5, .int .u32 0] 64))) := Lib.hid (Go.Joins.below_alloc1 _ _)
      clear hst hst2 HST HTK HRC HME
      generalize w3.alloc (.cells #[.int .i64 5, .int .u32 0] 64) = w4 at *
      generalize w3.heap.size = g3 at c0 ⊢
      go_wp2_with fail
      go_ret2
      exact ⟨0, Nat.zero_le _, rfl, s', nt, Nat.le_succ _, HO.out.1.keep HB.out, HO.out.2.zero⟩
    · have c0 : (w3.alloc (.cells #[.int .i64 0, .int .u32 0] 64)).cell? ⟨w3.heap.size, 0, none⟩ = some (.int .i64 0) := cells_new w3 [.int .i64 0, .int .u32 0] 64 0 _ rfl
      have HB : Hid (Below w3.heap.size w3 (w3.alloc (.cells #[.int .i64 0, .int .u32 0] 64))) := Lib.hid (Go.Joins.below_alloc1 _ _)
      clear hst hst2 HST HTK HRC HME
      generalize w3.alloc (.cells #[.int .i64 0, .int .u32 0] 64) = w4 at *
      generalize w3.heap.size = g3 at c0 ⊢
      go_wp2_with fail
      go_ret2
      exact ⟨p, p2, rfl, s', nt, Nat.le_succ _, HO.out.1.keep HB.out, HO.out.2⟩
  · by_cases h15 : (n : Int) < 15
    · go_wp2_with (go_at_call 17; refine HTK.out.mono ?_; rintro e2 w2 ⟨rfl, s', hg, hz⟩; have HO := Lib.hid (And.intro hg hz); clear hg hz)
      go_ret2
      exact ⟨0, Nat.zero_le _, rfl, s', nt + 1, Nat.le_refl _, HO.out.1, HO.out.2.zero⟩
    · go_wp2_with (first | (go_at_call 18; refine HME.out.mono ?_; rintro e2 w2 ⟨rfl, rfl⟩) | (go_at_call 6; refine (rest_is _ _ (by decide) (by decide)).mono ?_; rintro e2 w2 ⟨c, (hc : (c : Int) < 6), rfl, rfl⟩) | (go_at_call 19; refine (HRC.out _ (by assumption)).mono ?_; rintro e3 w3 ⟨⟨v, rfl⟩, s', hg, hz⟩; have HO := Lib.hid (And.intro hg hz); clear hg hz))
      go_ret2
      exact ⟨0, Nat.zero_le _, rfl, s', nt, Nat.le_succ _, HO.out.1, HO.out.2.zero⟩
end
end Go.Proofs.YtnbhohaphmilmaaGreatDoor
namespace Go.Proofs.YtnbhohaphmilmaaGreatDoor
open Go.RowKit
set_option linter.unusedVariables false
set_option linter.unusedSimpArgs false
theorem infoR2 : (Tryz.prog.info? 36).map (fun i => (i.zero, i.size, i.bytes)) = some (some (.agg rgZ), 10, 48) := by kernel_rfl
def appR := Builtin.append_ #[40, 40] 40
theorem appR_eq : Builtin.append_ #[40, 40] 40 = appR := rfl
/-- the registers behind the first n steps -/
def rowsP (l : List CodeLaw.Ins) (n : Nat) : List Value := (List.range n).flatMap fun j => (CpuLaw.cellsA (runP l (j + 1)).g).toList
theorem rowsP_succ (l : List CodeLaw.Ins) (n : Nat) : rowsP l (n + 1) = rowsP l n ++ (CpuLaw.cellsA (runP l (n + 1)).g).toList := by
  unfold rowsP
  rw [List.range_succ, List.flatMap_append]
  simp
theorem rowsP_len (l : List CodeLaw.Ins) (n : Nat) : (rowsP l n).length = n * 10 := by
  induction n with
  | zero => rfl
  | succ n ih => rw [rowsP_succ, List.length_append, ih]; simp [CpuLaw.cellsA]; omega
theorem rowsP_get (l : List CodeLaw.Ins) (n : Nat) {i j : Nat} (hi : i < n) (hj : j < 10) : (rowsP l n)[i * 10 + j]? = (CpuLaw.cellsA (runP l (i + 1)).g)[j]? := by
  induction n with
  | zero => omega
  | succ n ih =>
    rw [rowsP_succ]
    rcases Nat.lt_or_ge i n with q | q
    · rw [List.getElem?_append_left (by rw [rowsP_len]; omega)]
      exact ih q
    · obtain rfl : i = n := by omega
      rw [List.getElem?_append_right (by rw [rowsP_len]; omega), rowsP_len, show i * 10 + j - i * 10 = j by omega, Array.getElem?_toList]
/-- one process's list -/
def RgL (B : Nat) (w : World) (v : Value) (l : List CodeLaw.Ins) (n : Nat) : Prop := w.ownsRow B 36 10 v n (rowsP l n)
theorem RgL.push {B : Nat} {w : World} {v : Value} {l : List CodeLaw.Ins} {n : Nat} (h : RgL B w v l n) (hB : B ≤ w.heap.size) (hn : n < 1000) :
    ∃ p c w', (appR #[v, .slice (some ⟨w.heap.size, 0, none⟩) 1 1]).run Tryz.prog (w.alloc (.cells (CpuLaw.cellsA (runP l (n + 1)).g) 36)) = .ok (.slice p (n + 1) c) w' ∧ RgL B w' (.slice p (n + 1) c) l (n + 1) ∧ (w.alloc (.cells (CpuLaw.cellsA (runP l (n + 1)).g) 36)).grownBy w' v.ownBlock ∧ ((.slice p (n + 1) c : Value).ownBlock = v.ownBlock ∨ ∃ g, w.heap.size ≤ g ∧ (.slice p (n + 1) c : Value).ownBlock = some g) := by
  have hal := Go.Joins.below_alloc1 w (.cells (CpuLaw.cellsA (runP l (n + 1)).g) 36)
  obtain ⟨i0, i1, hz0, hz1, hz2⟩ := info_parts infoR2
  have hone : ∀ u ∈ (CpuLaw.cellsA (runP l (n + 1)).g).toList, u.oneCell' = true := fun u hu => by
    have := CpuLaw.cellsA_one (runP l (n + 1)).g
    rw [Array.all_eq_true'] at this
    exact this u (by simpa using hu)
  obtain ⟨v', w', hr, ho, hg, hd⟩ := run_append_fresh (P := Tryz.prog) (w.alloc (.cells (CpuLaw.cellsA (runP l (n + 1)).g) 36)) B 40 40 36 i0 (.agg rgZ) 10 48 Tryz.underlying40 i1 hz0 hz1 hz2 rfl (by decide) v n _ (owns_keep h hal) ⟨w.heap.size, 0, none⟩ 1 1 (CpuLaw.cellsA (runP l (n + 1)).g).toList rfl (fun j u hu => by
    rw [Addr.add_lit, Nat.zero_add, (row_new w 36 _).cell, ← Array.getElem?_toList]
    exact hu) hone (by unfold maxLen; omega) (by omega) (Nat.le_trans hB hal.size)
  have ho' : RgL B w' v' l (n + 1) := by
    unfold RgL
    rw [rowsP_succ]
    exact ho
  obtain ⟨p, c, hv⟩ := own_form ho
  subst hv
  refine ⟨p, c, w', hr, ho', hg, ?_⟩
  rcases hd with e | ⟨g, h1, e⟩
  · exact .inl e
  · exact .inr ⟨g, Nat.le_trans hal.size h1, e⟩
/-- the lists of all processes, in a block -/
structure OutB (B : Nat) (w : World) (Ob N : Nat) (P : Nat → List CodeLaw.Ins) (cnt : Nat → Nat) (vs : Nat → Value) : Prop where
  row : ∃ C, Row w Ob 40 C ∧ C.size = N ∧ ∀ i, i < N → C[i]? = some (vs i)
  lt : B ≤ Ob
  ls : ∀ i, i < N → RgL B w (vs i) (P (i + 1)) (cnt (i + 1))
  ne : ∀ i, i < N → (vs i).ownBlock ≠ some Ob
  inj : ∀ i j b, i < N → j < N → (vs i).ownBlock = some b → (vs j).ownBlock = some b → i = j
section
variable {B Ob N : Nat} {w w' : World} {P : Nat → List CodeLaw.Ins} {cnt : Nat → Nat} {vs : Nat → Value}
theorem OutB.olt (h : OutB B w Ob N P cnt vs) : Ob < w.heap.size := by
  obtain ⟨C, hr, -⟩ := h.row
  exact hr.lt
theorem OutB.upd {S : Nat → Prop} (h : OutB B w Ob N P cnt vs) (hu : Upd S w w') (h0 : ¬ S Ob) (hv : ∀ i b, i < N → (vs i).ownBlock = some b → ¬ S b) : OutB B w' Ob N P cnt vs := by
  obtain ⟨C, hr, h1, h2⟩ := h.row
  exact ⟨⟨C, hr.upd hu h0, h1, h2⟩, h.lt, fun i hi => hu.owns (h.ls i hi) (fun g e => hv i g hi e), h.ne, h.inj⟩
theorem OutB.keep (h : OutB B w Ob N P cnt vs) (hb : Below w.heap.size w w') : OutB B w' Ob N P cnt vs := h.upd (Upd.below hb (S := fun _ => False)) (fun e => e) (fun _ _ _ _ e => e)
/-- one more entry: the list is grown, then laid into its place -/
theorem OutB.more {i : Nat} {w1 w2 : World} {v' : Value} (h : OutB B w Ob N P cnt vs) (hi : i < N) (hb : Below w.heap.size w w1) (hg : w1.grownBy w2 (vs i).ownBlock) (hl : RgL B w2 v' (P (i + 1)) (cnt (i + 1) + 1)) (hd : v'.ownBlock = (vs i).ownBlock ∨ ∃ g, w.heap.size ≤ g ∧ v'.ownBlock = some g) (h1 : v'.oneCell' = true) :
    OutB B (w2.setCell ⟨Ob, i, none⟩ v') Ob N P (bmp cnt (i + 1)) (fun j => if j = i then v' else vs j) ∧ Upd (fun k => k = Ob ∨ (vs i).ownBlock = some k) w (w2.setCell ⟨Ob, i, none⟩ v') := by
  have h2 := h.keep hb
  have hol := h.olt
  have hu : Upd (fun k => (vs i).ownBlock = some k) w1 w2 := Upd.grown0 hg (fun j e _ => e)
  obtain ⟨C, hr, c1, c2⟩ := h2.row
  have hr2 := hr.upd hu (h.ne i hi)
  have hvlt : ∀ j b, j < N → (vs j).ownBlock = some b → b < w.heap.size := fun j b hj e => ((h.ls j hj).lt b e).2
  have hset : Upd (fun k => k = Ob) w2 (w2.setCell ⟨Ob, i, none⟩ v') := Upd.set _ _ rfl
  refine ⟨⟨⟨C.setIfInBounds i v', by rw [hr2.setCell]; exact hr2.setRow _, by simpa using c1, fun j hj => ?_⟩, h.lt, fun j hj => ?_, fun j hj => ?_, fun j1 j2 b hj1 hj2 e1 e2 => ?_⟩, ?_⟩
  · rw [Array.getElem?_setIfInBounds]
    by_cases e : i = j
    · subst e
      rw [if_pos rfl, if_pos (by omega), if_pos rfl]
    · rw [if_neg e, if_neg (fun q => e q.symm)]
      exact c2 j hj
  · by_cases e : j = i
    · subst e
      rw [if_pos rfl, show bmp cnt (j + 1) (j + 1) = cnt (j + 1) + 1 from if_pos rfl]
      refine hset.owns hl (fun g e1 e2 => ?_)
      have e2 : g = Ob := e2
      subst e2
      rcases hd with q | ⟨g', q1, q2⟩
      · rw [q] at e1; exact h.ne j hj e1
      · rw [q2] at e1; injection e1 with e1; omega
    · rw [if_neg e, show bmp cnt (i + 1) (j + 1) = cnt (j + 1) from if_neg (by omega)]
      have h3 := hu.owns (h2.ls j hj) (fun g e1 e2 => e (h.inj j i g hj hi e1 e2))
      exact hset.owns h3 (fun g e1 e2 => by have e2 : g = Ob := e2; subst e2; exact h.ne j hj e1)
  · by_cases e : j = i
    · rw [if_pos e]
      rcases hd with q | ⟨g', q1, q2⟩
      · rw [q]; exact h.ne i hi
      · rw [q2]; intro q; injection q with q; omega
    · rw [if_neg e]; exact h.ne j hj
  · have key : ∀ j b, j < N → j ≠ i → (vs j).ownBlock = some b → v'.ownBlock ≠ some b := fun j b hj hne e q => by
      rcases hd with z | ⟨g', z1, z2⟩
      · rw [z] at q; exact hne (h.inj j i b hj hi e q)
      · rw [z2] at q; injection q with q; have := hvlt j b hj e; omega
    by_cases a1 : j1 = i
    · by_cases a2 : j2 = i
      · omega
      · rw [if_pos a1] at e1; rw [if_neg a2] at e2; exact absurd e1 (key j2 b hj2 a2 e2)
    · by_cases a2 : j2 = i
      · rw [if_neg a1] at e1; rw [if_pos a2] at e2; exact absurd e2 (key j1 b hj1 a1 e1)
      · rw [if_neg a1] at e1; rw [if_neg a2] at e2; exact h.inj j1 j2 b hj1 hj2 e1 e2
  · exact ((Upd.below hb).trans (hu.mono fun k _ e => .inr e)).trans (hset.mono fun k _ e => .inl e)
end
end Go.Proofs.YtnbhohaphmilmaaGreatDoor
namespace Go.Proofs.YtnbhohaphmilmaaGreatDoor.CpuLaw
open Go.RowKit
set_option linter.unusedVariables false
set_option linter.unusedSimpArgs false
/-- the general registers as an array -/
def regsA (g : G) : Array Value := #[.int .u32 (g.r 0), .int .u32 (g.r 1), .int .u32 (g.r 2), .int .u32 (g.r 3), .int .u32 (g.r 4), .int .u32 (g.r 5), .int .u32 (g.r 6), .int .u32 (g.r 7)]
theorem part_at (g : G) (i : Nat) (hi : i < 8) (w : World) : (part 33 (regsA g) (i * 1)).run Tryz.prog w = .ok (.int .u32 (g.r i)) w := by
  have : i = 0 ∨ i = 1 ∨ i = 2 ∨ i = 3 ∨ i = 4 ∨ i = 5 ∨ i = 6 ∨ i = 7 := by omega
  rcases this with rfl | rfl | rfl | rfl | rfl | rfl | rfl | rfl <;> simp [part, go_sem, regsA]
theorem items_same (d : Nat) (w : World) (h : Nat → Nat) (A A' : Array Value) (hA : ∀ i, i < 8 → ∀ w, (part 33 A (i * 1)).run Tryz.prog w = .ok (.int .u32 (h i)) w) (hA' : ∀ i, i < 8 → ∀ w, (part 33 A' (i * 1)).run Tryz.prog w = .ok (.int .u32 (h i)) w) : ∀ is : List Nat, (∀ i ∈ is, i < 8) → (Op.eqItems (d + 1) 33 1 A A' is).run Tryz.prog w = .ok true w := by
  intro is
  induction is with
  | nil => intro _; simp [Op.eqItems]
  | cons i is ih =>
    intro hi
    have h1 := hA i (hi i (by simp)) w
    have h1' := hA' i (hi i (by simp)) w
    have h2 := ih (fun j hj => hi j (by simp [hj]))
    simp only [Op.eqItems, Sem.run_bind, h1, h1', Result.andThen_ok]
    have h3 := run_equalIn_int w d 33 .u32 .u32 (h i) (h i) Tryz.underlying33
    simp [h2, h3]
theorem eq59 {g g' : G} (d : Nat) (hr : ∀ i, i < 8 → g'.r i = g.r i) (w : World) : (Op.equalIn (d + 2) 34 (.agg (regsA g)) (.agg (regsA g'))).run Tryz.prog w = .ok true w := by
  rw [show d + 2 = (d + 1) + 1 from rfl, run_equalIn_array w (d + 1) _ _ Tryz.underlying34 (i := Tryz.t33) (by kernel_rfl), show Tryz.prog.cellsOf 33 = 1 from by kernel_rfl]
  exact items_same d w g.r _ _ (fun i hi w => part_at g i hi w) (fun i hi w => by rw [← hr i hi]; exact part_at g' i hi w) _ (fun i hi => by simpa using hi)
set_option maxRecDepth 100000 in
set_option maxHeartbeats 1000000 in
theorem eq61 (g : G) (w : World) : (Op.equalIn 10000 36 (.agg (cellsA g)) (.agg (cellsA g))).run Tryz.prog w = .ok true w := by
  have h := eq59 (g := g) (g' := g) 9997 (fun _ _ => rfl) w
  unfold cellsA
  unfold regsA at h
  simp [go_sem, h]
theorem neq61 (g : G) (w : World) : (binOp .neq 36 (.agg (cellsA g)) (.agg (cellsA g))).run Tryz.prog w = .ok (.bool false) w := by
  have h : (Op.equalIn Op.maxDepth 36 (.agg (cellsA g)) (.agg (cellsA g))).run Tryz.prog w = .ok true w := eq61 g w
  generalize cellsA g = A at *
  simp [binOp, Op.equal, h, go_sem]
end Go.Proofs.YtnbhohaphmilmaaGreatDoor.CpuLaw
