/- What rvPut makes of the memory; the walks of kernel.Space and kernel.Memory. Walks of ringtop's rvRest, rvLoop, rvLoops. The walk of ringtop.rvLoops. -/
import Derived.Test.YtnmlapiekfkbaaaGreatDoorTpA
import Derived.Test.YtnmlapiekfkbaaaGreatDoorKerG
import Derived.Test.YtnmlapiekfkbaaaGreatDoorSpN
namespace Go.Proofs.YtnmlapiekfkbaaaGreatDoor
open Go.RowKit
set_option linter.unusedVariables false
set_option linter.unusedSimpArgs false
section
variable {w w0 w1 w2 : World} {k : KC} {s s0 s' : KSt} {p : Nat}
/-- another memory -/
theorem KG.mem {m' : MS} (h : KG s0 k w w1 s) (hm : MemG w2 k.M k.so s.fr s.sl m') (hu : Upd (mB k.M k.so s.m) w1 w2) (hB : ∀ j, mB k.M k.so m' j → mB k.M k.so s.m j ∨ w1.heap.size ≤ j) : KG s0 k w w2 { s with m := m', tag := tg s.tag w1.heap.size (mB k.M k.so m') 6 } :=
  h.step (h.kt.mem hm hu hB) hu (fun j e => by rw [h.kt.tM j e]; decide) (fun j e => by
    rcases Nat.lt_or_ge j w1.heap.size with q | q
    · have e : tg s.tag w1.heap.size (mB k.M k.so m') 6 j ≠ 0 := e
      rw [tg_old q] at e; exact .inl e
    · exact .inr q)
set_option maxRecDepth 100000 in
set_option maxHeartbeats 400000 in
theorem kspace_is (h : KT w k s) (h1 : 1 ≤ p) (h16 : p ≤ 16) (hl : (s.t p).st = 1) {s1 : Int} (hsp : s.c (8 + p * 38) = .int .i64 s1) : Calls Tryz.prog 42 #[.pointer (some ⟨k.K, 0, none⟩), .int .i64 p] w fun e w' => e = .returned (.tuple #[.int .i64 s1, .int .i64 0]) ∧ w = w' := by
  have HL := Lib.hid (livingP_is h h1 h16 hl)
  have q8 : w.cell? ⟨k.K, 8 + p * 38, none⟩ = some (.int .i64 s1) := by rw [h.kr.cell (by omega), hsp]
  have i17 : (p : Int) < 17 := by omega
  clear h hl hsp
  go_enter Tryz.func42, Tryz.ntmps42
  go_wp2_with (go_at_call 14; refine HL.out.mono ?_; rintro e1 w1 ⟨rfl, rfl⟩)
  go_ret2
  exact ⟨rfl, rfl⟩
set_option maxRecDepth 100000 in
theorem kmem_is (h : KT w k s) : Calls Tryz.prog 43 #[.pointer (some ⟨k.K, 0, none⟩)] w fun e w' => e = .returned (.pointer (some ⟨k.M, 0, none⟩)) ∧ w = w' := by
  have q1 : w.cell? ⟨k.K, 1, none⟩ = some (.pointer (some ⟨k.M, 0, none⟩)) := by rw [h.kr.cell (by decide), h.c1]
  clear h
  go_enter Tryz.func43, Tryz.ntmps43
  go_wp2_with fail
  go_ret
  exact ⟨rfl, rfl⟩
end
/-- what page i of a program has -/
def pgB (L : List Int) (i : Nat) : List Int := (L.drop (16 * i)).take 16
/-- pages that are put, one by one -/
def PutsTo (B0 b : Nat) (f : Nat → Int × List Int) (m : MS) : Nat → MS → Prop
  | 0, m' => m' = m
  | i + 1, m' => ∃ m1, PutsTo B0 b f m i m1 ∧ PutOne B0 m1 m' b i (f i).1 (padF (f i).2)
structure PutFacts (B0 b : Nat) (f : Nat → Int × List Int) (m : MS) (i : Nat) (m' : MS) : Prop where
  S : m'.S = m.S
  nS : m'.nS = m.nS
  len : m'.pl.length = m.pl.length + i
  nF : m'.nF b = m.nF b + i
  fr : ∀ j : Int, (j < 0 ∨ (i : Int) ≤ j) → m'.F b j = m.F b j
  oth : ∀ b', b' ≠ b → m'.F b' = m.F b' ∧ m'.nF b' = m.nF b'
  pv : m'.pv.ownBlock = m.pv.ownBlock ∨ ∃ x, B0 ≤ x ∧ m'.pv.ownBlock = some x
  pl : ∀ g, g ∈ m.pl → g ∈ m'.pl
  nw : ∀ g, g ∈ m'.pl → g ∈ m.pl ∨ B0 ≤ g
  old : ∀ g, g < B0 → m'.d g = m.d g ∧ m'.u g = m.u g
  pg : ∀ j, j < i → ∃ g, B0 ≤ g ∧ g ∈ m'.pl ∧ m'.F b (j : Nat) = some (g, (f j).1) ∧ m'.d g = padF (f j).2 ∧ m'.u g = 1
  inj : ∀ j j' g r r', j < i → j' < i → m'.F b (j : Nat) = some (g, r) → m'.F b (j' : Nat) = some (g, r') → j = j'
theorem PutsTo.facts {B0 b : Nat} {f : Nat → Int × List Int} {m : MS} (hB : ∀ g, g ∈ m.pl → g < B0) : ∀ {i : Nat} {m' : MS}, PutsTo B0 b f m i m' → m'.pl.Nodup → PutFacts B0 b f m i m'
  | 0, m', h, _ => by
    have h : m' = m := h
    subst h
    exact ⟨rfl, rfl, rfl, rfl, fun _ _ => rfl, fun _ _ => ⟨rfl, rfl⟩, .inl rfl, fun _ e => e, fun _ e => .inl e, fun _ _ => ⟨rfl, rfl⟩, fun j hj => absurd hj (Nat.not_lt_zero _), fun j j' g r r' hj => absurd hj (Nat.not_lt_zero _)⟩
  | i + 1, m', ⟨m1, h1, g, v, hg, hv, e⟩, hnd => by
    subst e
    have hpl : (m1.pl ++ [g]).Nodup := hnd
    have hnd1 : m1.pl.Nodup := (List.nodup_append.1 hpl).1
    have hgn : ¬ g ∈ m1.pl := fun q => (List.nodup_append.1 hpl).2.2 g q g (by simp) rfl
    have q := PutsTo.facts hB h1 hnd1
    refine ⟨q.S, q.nS, ?_, ?_, fun j hj => ?_, fun b' hb' => ⟨?_, ?_⟩, ?_, fun x hx => ?_, fun x hx => ?_, fun x hx => ⟨?_, ?_⟩, fun j hj => ?_, fun j j' g1 r r' hj hj' e1 e2 => ?_⟩
    · show (m1.pl ++ [g]).length = _
      rw [List.length_append, q.len]; simp; omega
    · show fup m1.nF b (m1.nF b + 1) b = _
      rw [fup_same, q.nF]; omega
    · show fup m1.F b _ b j = _
      rw [fup_same, if_neg (by push_cast at hj; omega)]
      exact q.fr j (by push_cast at hj; omega)
    · show fup m1.F b _ b' = _
      rw [fup_off _ _ hb']; exact (q.oth b' hb').1
    · show fup m1.nF b _ b' = _
      rw [fup_off _ _ hb']; exact (q.oth b' hb').2
    · show v.ownBlock = _ ∨ ∃ x, B0 ≤ x ∧ v.ownBlock = some x
      rcases hv with z | z
      · rw [z]; exact q.pv
      · exact .inr z
    · exact List.mem_append.2 (.inl (q.pl x hx))
    · rcases List.mem_append.1 hx with z | z
      · exact q.nw x z
      · simp at z; subst z; exact .inr hg
    · show fup m1.d g _ x = _
      rw [fup_off _ _ (by omega)]; exact (q.old x hx).1
    · show fup m1.u g _ x = _
      rw [fup_off _ _ (by omega)]; exact (q.old x hx).2
    · by_cases ej : j = i
      · subst ej
        exact ⟨g, hg, List.mem_append.2 (.inr (by simp)), by show fup m1.F b _ b _ = _; rw [fup_same, if_pos rfl], by show fup m1.d g _ g = _; rw [fup_same], by show fup m1.u g _ g = _; rw [fup_same]⟩
      · obtain ⟨g0, a1, a2, a3, a4, a5⟩ := q.pg j (by omega)
        have hne : g0 ≠ g := fun z => hgn (z ▸ a2)
        refine ⟨g0, a1, List.mem_append.2 (.inl a2), ?_, ?_, ?_⟩
        · show fup m1.F b _ b _ = _
          rw [fup_same, if_neg (by omega)]; exact a3
        · show fup m1.d g _ g0 = _
          rw [fup_off _ _ hne]; exact a4
        · show fup m1.u g _ g0 = _
          rw [fup_off _ _ hne]; exact a5
    · have f1 : ∀ n : Nat, n ≠ i → fup m1.F b (fun j => if j = (i : Int) then some (g, (f i).1) else m1.F b j) b n = m1.F b n := fun n hn => by rw [fup_same, if_neg (by omega)]
      have f2 : fup m1.F b (fun j => if j = (i : Int) then some (g, (f i).1) else m1.F b j) b i = some (g, (f i).1) := by rw [fup_same, if_pos rfl]
      have e1 : fup m1.F b (fun j => if j = (i : Int) then some (g, (f i).1) else m1.F b j) b j = some (g1, r) := e1
      have e2 : fup m1.F b (fun j => if j = (i : Int) then some (g, (f i).1) else m1.F b j) b j' = some (g1, r') := e2
      have key : ∀ n : Nat, n < i + 1 → n ≠ i → ∀ x r2, fup m1.F b (fun j => if j = (i : Int) then some (g, (f i).1) else m1.F b j) b n = some (x, r2) → x ≠ g := fun n hn hni x r2 hx z => by
        obtain ⟨g0, a1, a2, a3, -, -⟩ := q.pg n (by omega)
        rw [f1 n hni, a3] at hx
        injection hx with hx
        injection hx with hx
        exact hgn (by rw [← z, ← hx]; exact a2)
      by_cases ej : j = i
      · by_cases ej' : j' = i
        · omega
        · exfalso
          subst ej
          rw [f2] at e1
          injection e1 with e1
          injection e1 with e1
          exact key j' hj' ej' _ _ e2 e1.symm
      · by_cases ej' : j' = i
        · exfalso
          subst ej'
          rw [f2] at e2
          injection e2 with e2
          injection e2 with e2
          exact key j hj ej _ _ e1 e2.symm
        · rw [f1 j ej] at e1
          rw [f1 j' ej'] at e2
          exact q.inj j j' g1 r r' (by omega) (by omega) e1 e2
theorem PutOne.mB {B0 b : Nat} {m m' : MS} {a r : Int} {d : Nat → Int} (h : PutOne B0 m m' b a r d) {M so j : Nat} (hj : mB M so m' j) : mB M so m j ∨ B0 ≤ j := by
  obtain ⟨g, v, hg, hv, rfl⟩ := h
  rcases hj with q | q | q | ⟨s, q⟩ | q
  · exact .inl (.inl q)
  · exact .inl (.inr (.inl q))
  · have q : v.ownBlock = some j := q
    rcases hv with z | ⟨x, z1, z2⟩
    · exact .inl (.inr (.inr (.inl (by rw [← z]; exact q))))
    · rw [z2] at q; injection q with q; exact .inr (by omega)
  · exact .inl (.inr (.inr (.inr (.inl ⟨s, q⟩))))
  · have q : j ∈ m.pl ++ [g] := q
    rcases List.mem_append.1 q with z | z
    · exact .inl (.inr (.inr (.inr (.inr z))))
    · simp at z; exact .inr (by omega)
theorem Unm.mB {b : Nat} {n : Int} {m m' : MS} (h : Unm m m' b n) {M so j : Nat} (hj : mB M so m' j) : mB M so m j := by
  rcases hj with q | q | q | ⟨s, q⟩ | q
  · exact .inl q
  · exact .inr (.inl q)
  · exact .inr (.inr (.inl (by rw [← h.pv]; exact q)))
  · exact .inr (.inr (.inr (.inl ⟨s, by rw [← h.S]; exact q⟩)))
  · exact .inr (.inr (.inr (.inr (by rw [← h.pl]; exact q))))
end Go.Proofs.YtnmlapiekfkbaaaGreatDoor
namespace Go.Proofs.YtnmlapiekfkbaaaGreatDoor
open Go.RowKit
set_option linter.unusedVariables false
set_option linter.unusedSimpArgs false
/-- the program that goes round -/
def loopL : List CodeLaw.Ins := [⟨14, 1, 1, 1⟩, ⟨19, 0, 0, -4⟩]
theorem u64_mod (k n : Int) (h0 : 0 < n) (h9 : n < 1000) : ∃ r : Nat, (r : Int) < n ∧ wrap64 ((IntKind.u64.wrap k).tmod n) = r := by
  have hk : 0 ≤ IntKind.u64.wrap k := by
    have e : IntKind.u64.wrap k = k % 18446744073709551616 := by simp [IntKind.wrap, IntKind.signed, IntKind.bits]
    rw [e]
    exact Int.emod_nonneg _ (by decide)
  rw [Int.tmod_eq_emod_of_nonneg hk]
  have h1 := Int.emod_nonneg (IntKind.u64.wrap k) (show n ≠ 0 by omega)
  have h2 := Int.emod_lt_of_pos (IntKind.u64.wrap k) h0
  rw [IntWalk.wrap64_in _ (by omega)]
  exact ⟨((IntKind.u64.wrap k) % n).toNat, by omega, by omega⟩
theorem rest_is (w : World) (k : Int) {n : Int} (h0 : 0 < n) (h9 : n < 1000) : Calls Tryz.prog 4 #[.int .i64 k, .int .i64 n] w fun e w' => ∃ r : Nat, (r : Int) < n ∧ e = .returned (.int .i64 r) ∧ w' = w := by
  obtain ⟨r, hr, er⟩ := u64_mod k n h0 h9
  have hw : IntKind.u64.wrap n = n := IntWalk.u64_in n (by omega)
  have hn : ¬ n = 0 := by omega
  have HR := Lib.hid hr
  go_enter Tryz.func4, Tryz.ntmps4
  go_wp2_with fail
  go_ret
  exact ⟨r, HR.out, by rw [er]; rfl, rfl⟩
theorem loop_is (w : World) : Calls Tryz.prog 13 #[] w fun e w' => ∃ b, w.heap.size ≤ b ∧ b < w'.heap.size ∧ e = .returned (.slice (some ⟨b, 0, none⟩) 2 2) ∧ InsL w' (.slice (some ⟨b, 0, none⟩) 2 2) loopL ∧ Below w.heap.size w w' := by
  have hal := Go.Joins.below_alloc1 w (.cells #[.int .i64 14, .int .i64 1, .int .i64 1, .int .i64 1, .int .i64 19, .int .i64 0, .int .i64 0, .int .i64 (-4)] 118)
  have hr := row_new w 118 #[.int .i64 14, .int .i64 1, .int .i64 1, .int .i64 1, .int .i64 19, .int .i64 0, .int .i64 0, .int .i64 (-4)]
  have HA := Lib.hid hal
  have HR := Lib.hid hr
  clear hal hr
  go_enter Tryz.func13, Tryz.ntmps13
  go_wp2_with fail
  go_ret
  refine ⟨w.heap.size, Nat.le_refl _, by simp, rfl, ⟨w.heap.size, 2, rfl, fun i x hx => ?_⟩, HA.out⟩
  match i, hx with
  | 0, hx => injection hx with hx; subst hx; exact ⟨HR.out.cell 0, HR.out.cell 1, HR.out.cell 2, HR.out.cell 3⟩
  | 1, hx => injection hx with hx; subst hx; exact ⟨HR.out.cell 4, HR.out.cell 5, HR.out.cell 6, HR.out.cell 7⟩
/-- so many programs that go round -/
structure LpL (B : Nat) (w : World) (v : Value) (n : Nat) (xs : List Value) : Prop where
  own : w.ownsRow B 51 1 v n xs
  len : xs.length = n
  one : ∀ x ∈ xs, ∃ b, x = .slice (some ⟨b, 0, none⟩) 2 2 ∧ b < w.heap.size ∧ InsL w x loopL ∧ v.ownBlock ≠ some b
theorem InsL.upd {S : Nat → Prop} {w w' : World} {b c : Nat} {l : List CodeLaw.Ins} {L : Nat} (h : InsL w (.slice (some ⟨b, 0, none⟩) L c) l) (hu : Upd S w w') (hn : ¬ S b) : InsL w' (.slice (some ⟨b, 0, none⟩) L c) l := by
  obtain ⟨b', cap, e, hc⟩ := h
  injection e with e e1 e2
  injection e with e
  injection e with e
  subst e
  refine ⟨b, cap, by rw [e1, e2], fun i x hx => ?_⟩
  obtain ⟨c0, c1, c2, c3⟩ := hc i x hx
  have hl : b < w.heap.size := World.block_lt_of_cell? w _ c0
  exact ⟨(hu.cell hl hn).trans c0, (hu.cell hl hn).trans c1, (hu.cell hl hn).trans c2, (hu.cell hl hn).trans c3⟩
theorem LpL.upd {B n : Nat} {S : Nat → Prop} {w w' : World} {v : Value} {xs : List Value} (h : LpL B w v n xs) (hu : Upd S w w') (hS : ∀ b, b < w.heap.size → ¬ S b) : LpL B w' v n xs :=
  ⟨hu.owns h.own (fun g hg => hS g (h.own.lt g hg).2), h.len, fun x hx => by
    obtain ⟨b, rfl, hb, hi, hv⟩ := h.one x hx
    exact ⟨b, rfl, Nat.lt_of_lt_of_le hb hu.size, hi.upd hu (hS b hb), hv⟩⟩
theorem LpL.keep {B n : Nat} {w w' : World} {v : Value} {xs : List Value} (h : LpL B w v n xs) (hb : Below w.heap.size w w') : LpL B w' v n xs := h.upd (S := fun _ => False) (Upd.below hb) (fun _ _ e => e)
end Go.Proofs.YtnmlapiekfkbaaaGreatDoor
namespace Go.Proofs.YtnmlapiekfkbaaaGreatDoor
open Go.RowKit
set_option linter.unusedVariables false
set_option linter.unusedSimpArgs false
theorem infoIL : (Tryz.prog.info? 51).map (fun i => (i.zero, i.size, i.bytes)) = some (some (.slice none 0 0), 1, 24) := by kernel_rfl
def apIL := Builtin.append_ #[26, 26] 26
theorem apIL_eq : Builtin.append_ #[26, 26] 26 = apIL := rfl
theorem LpL.push {B n : Nat} {w w1 : World} {v : Value} {xs : List Value} (h : LpL B w v n xs) (hn : n < 100) {b : Nat} (h0 : w.heap.size ≤ b) (h1 : b < w1.heap.size) (hi : InsL w1 (.slice (some ⟨b, 0, none⟩) 2 2) loopL) (hb : Below w.heap.size w w1) (hB : B ≤ w.heap.size) :
    ∃ v' w', (apIL #[v, .slice (some ⟨w1.heap.size, 0, none⟩) 1 1]).run Tryz.prog (w1.alloc (.cells #[.slice (some ⟨b, 0, none⟩) 2 2] 51)) = .ok v' w' ∧ LpL B w' v' (n + 1) (xs ++ [.slice (some ⟨b, 0, none⟩) 2 2]) ∧ Below B w w' := by
  have hal := Go.Joins.below_alloc1 w1 (.cells #[.slice (some ⟨b, 0, none⟩) 2 2] 51)
  have hb2 := hb.trans (hal.mono hb.size)
  have z := hb2.size
  have za := hal.size
  obtain ⟨i0, i1, hz0, hz1, hz2⟩ := info_parts infoIL
  obtain ⟨v', w', hr, ho, hg, hd⟩ := run_append_fresh (P := Tryz.prog) (w1.alloc (.cells #[.slice (some ⟨b, 0, none⟩) 2 2] 51)) B 26 26 51 i0 (.slice none 0 0) 1 24 Tryz.underlying26 i1 hz0 hz1 hz2 rfl (by decide) v n xs (owns_keep h.own hb2) ⟨w1.heap.size, 0, none⟩ 1 1 [.slice (some ⟨b, 0, none⟩) 2 2] rfl (cells1_new w1 (.slice (some ⟨b, 0, none⟩) 2 2) 51) (by simp [Value.oneCell']) (by unfold maxLen; omega) (by omega) (by omega)
  have zg := hg.size
  have hBw := (Below.refl B _).grown hg (by omega) (fun g hgg => (h.own.lt g hgg).1)
  refine ⟨v', w', hr, ⟨ho, by simp [h.len], fun x hx => ?_⟩, ?_⟩
  · rcases List.mem_append.1 hx with hx | hx
    · obtain ⟨b', rfl, hb', hi', hv'⟩ := h.one x hx
      refine ⟨b', rfl, by omega, (hi'.keep hb2).upd (Upd.grown0 (S := fun j => v.ownBlock = some j) hg (fun j e _ => e)) hv', ?_⟩
      rcases hd with e | ⟨g, hg1, e⟩
      · rw [e]; exact hv'
      · rw [e]; intro q; injection q with q; omega
    · obtain rfl : x = .slice (some ⟨b, 0, none⟩) 2 2 := by simpa using hx
      have hvb : v.ownBlock ≠ some b := fun e => by have := (h.own.lt b e).2; omega
      refine ⟨b, rfl, by omega, (hi.keep hal).upd (Upd.grown0 (S := fun j => v.ownBlock = some j) hg (fun j e _ => e)) hvb, ?_⟩
      rcases hd with e | ⟨g, hg1, e⟩
      · rw [e]; exact hvb
      · rw [e]; intro q; injection q with q; have := hal.size; omega
  · exact ((Upd.below hb2).toBelow hB (S := fun _ => False) (fun _ _ e => e)).trans hBw
attribute [local go_sem ↓] apIL_eq
set_option maxRecDepth 100000 in
theorem loops_is (w : World) {n : Nat} (hn : n < 100) : Calls Tryz.prog 6 #[.int .i64 n] w fun e w' => ∃ v xs, e = .returned v ∧ LpL w.heap.size w' v n xs ∧ Below w.heap.size w w' := by
  have n100 : (n : Int) < 100 := by omega
  go_enter Tryz.func6, Tryz.ntmps6
  go_wp2_with fail
  go_loopw [3, 5] (fun ov kv wr => ∃ k : Nat, k ≤ n ∧ kv = .int .i64 k ∧ Hid (∃ xs, LpL w.heap.size wr ov k xs) ∧ Hid (Below w.heap.size w wr)) (fun _ kv _ => n - (intOf kv).toNat)
  case atStart => exact ⟨0, Nat.zero_le _, rfl, Lib.hid ⟨[], World.ownsRow_nil _ _ _ _, rfl, fun x hx => by cases hx⟩, Lib.hid (Below.refl _ _)⟩
  case round =>
    obtain ⟨k, hk0, rfl, HL, HB⟩ := hrel
    by_cases hk : k < n
    · have i1 : (k : Int) < n := by omega
      have HLP := Lib.hid (loop_is wr)
      go_upto_region 5 with (go_at_call 13; refine HLP.out.mono ?_; rintro e1 w1 ⟨b, hb0, hb1, rfl, hi1, hw1⟩; obtain ⟨xs, hl⟩ := HL.out; obtain ⟨v', w', hr', hl', hbb⟩ := hl.push (by omega) hb0 hb1 hi1 hw1 HB.out.size; have HL1 := Lib.hid hl'; have HB1 := Lib.hid (HB.out.trans hbb); clear hl hl' hbb hi1 hw1)
      go_wp2_with fail
      go_roundw
      case rel => exact ⟨k + 1, by omega, by go_num, Lib.hid ⟨_, HL1.out⟩, HB1⟩
      case measure => simp [intOf]; omega
    · obtain rfl : k = n := by omega
      go_wp2_with fail
      go_ret
      obtain ⟨xs, hl⟩ := HL.out
      exact ⟨_, xs, rfl, hl, HB.out⟩
end Go.Proofs.YtnmlapiekfkbaaaGreatDoor
