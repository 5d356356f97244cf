/- The walks of space: Write in one page. Space, Memory; a law's state behind a turn of the memory, and with a row more. The states that the law of forks goes through, and what may be asked in each. A number's last eight bits. No program here. Walks of ringkeep5's good. -/
import Derived.Test.YtmdjkoiglghipaaGreatDoorSpK
import Derived.Test.YtmdjkoiglghipaaGreatDoorSpI
import Derived.Test.YtmdjkoiglghipaaGreatDoorOwn
import Derived.Test.YtmdjkoiglghipaaGreatDoorTab
namespace Go.Proofs.YtmdjkoiglghipaaGreatDoor
open Go.RowKit Go.Maps
set_option linter.unusedVariables false
set_option linter.unusedSimpArgs false
section
variable {w w' : World} {M so g b : Nat} {fr sl s pg ad : Int} {m : MS}
set_option maxRecDepth 100000 in
set_option maxHeartbeats 1000000 in
theorem lay0_is (h : MemG w M so fr sl m) (hs : m.S s = some b) (hwf : (Lit.int .i64 s).wf = true) (h0 : 0 ≤ pg) (h63 : pg < 64) (hF : m.F b pg = some (g, 3)) (hg : g ∈ m.pl) {u : Int} (hu : m.u g = u) (hu1 : u = 1 ∨ u = 2) (had : ad = 16 * pg) (hf : 0 ≤ fr ∧ fr ≤ 1000) (hsl : 0 ≤ sl ∧ sl ≤ 1000) (hpl : (m.pl.length : Int) ≤ fr + sl) (a : Option Addr) (cap : Nat) (hcm : cap ≤ maxLen) :
    Calls Tryz.prog 23 #[.pointer (some ⟨M, 0, none⟩), .int .i64 s, .int .i64 ad, .slice a 0 cap] w fun e w' => e = .returned (.int .i64 0) ∧ Below w.heap.size w w' := by
  have HSH := Lib.hid (sharedG_is h hs hwf h0 h63 hF hg had (n := 0) (by omega) (by omega) hu hu1 (x := 0) (by rw [if_neg (by omega)]))
  have HRO := Lib.hid (roomG_is h 0 (by omega) hf hsl (by omega))
  rw [show decide ((0 : Int) ≤ fr + sl - m.pl.length) = true from decide_eq_true (by omega)] at HRO
  have hmx : (cap : Int) ≤ 9223372036854775807 := by unfold maxLen at hcm; omega
  clear h hs hwf hF hg had hf hsl hpl hcm hu
  go_enter Tryz.func23, Tryz.ntmps23
  go_upto_region 3 with (first | (go_at_call 48; refine HSH.out.mono ?_; rintro e1 w1 ⟨rfl, rfl⟩) | (go_at_call 47; refine HRO.out.mono ?_; rintro e2 w2 ⟨rfl, hb2⟩))
  go_wp2_with fail
  refine wp_loop_rounds 1 ?_
  rw [rounds_succ]
  go_wp2_with fail
  go_ret
  exact ⟨rfl, hb2⟩
/-- what Write does first -/
theorem write_by (h : MemG w M so fr sl m) (hs : m.S s = some b) (hwf : (Lit.int .i64 s).wf = true) (h0 : 0 ≤ pg) (h63 : pg < 64) (hF : m.F b pg = some (g, 3)) (had : ad = 16 * pg) {n : Nat} (hn : n ≤ 16) {a : Option Addr} {cap : Nat} (hcm : cap ≤ maxLen) {P : World → Prop}
    (hl : ∀ w1, Below w.heap.size w w1 → Calls Tryz.prog 23 #[.pointer (some ⟨M, 0, none⟩), .int .i64 s, .int .i64 ad, .slice a n cap] w1 fun e w' => e = .returned (.int .i64 0) ∧ P w') :
    Calls Tryz.prog 9 #[.pointer (some ⟨M, 0, none⟩), .int .i64 s, .int .i64 ad, .slice a n cap] w fun e w' => e = .returned (.int .i64 0) ∧ P w' := by
  have m4 := h.m4
  have l1 := h.two hs hwf
  have l2 := map_no_nil w b
  have HMAY := Lib.hid (mayG_is h hs hwf h0 h63 hF had (n := (n : Int)) (wt := 2) (by omega) (by omega) (.inr rfl))
  have HL := Lib.hid hl
  have i1 : ¬ (256 : Int) < n := by omega
  have hmx : (cap : Int) ≤ 9223372036854775807 := by unfold maxLen at hcm; omega
  clear h hs hwf hF had hl hcm
  go_enter Tryz.func9, Tryz.ntmps9
  go_wp2_with (first | (go_at_call 22; refine HMAY.out.mono ?_; rintro e1 w1 ⟨rfl, hb1⟩; have HL1 := Lib.hid (HL.out w1 hb1); clear hb1) | (go_at_call 23; refine HL1.out.mono ?_; rintro e2 w2 ⟨rfl, hp⟩; have HP := Lib.hid hp; clear hp))
  go_ret
  exact ⟨rfl, HP.out⟩
theorem writeP_is (h : MemG w M so fr sl m) (hs : m.S s = some b) (hwf : (Lit.int .i64 s).wf = true) (h0 : 0 ≤ pg) (h63 : pg < 64) (hF : m.F b pg = some (g, 3)) (hg : g ∈ m.pl) (hh : m.h g = true) (hu1 : m.u g = 1) (had : ad = 16 * pg) (hf : 0 ≤ fr ∧ fr ≤ 1000) (hsl : 0 ≤ sl ∧ sl ≤ 1000) (hpl : (m.pl.length : Int) ≤ fr + sl)
    {v : Value} {xs : List Int} (hv : At (Value.int .u8) 0 w v xs) (hn : xs.length ≤ 16) (hne : xs ≠ [] → ∀ a n c, v = .slice (some a) n c → ¬ mB M so m a.block) :
    Calls Tryz.prog 9 #[.pointer (some ⟨M, 0, none⟩), .int .i64 s, .int .i64 ad, v] w fun e w' => e = .returned (.int .i64 0) ∧ MemG w' M so fr sl (m.dat g (dl (m.d g) xs xs.length)) ∧ Upd (fun k => k = M ∨ k = g) w w' := by
  obtain ⟨a, cap, rfl, h1, h2, h3⟩ := hv
  refine write_by h hs hwf h0 h63 hF had hn h2 (P := fun w' => MemG w' M so fr sl (m.dat g (dl (m.d g) xs xs.length)) ∧ Upd (fun k => k = M ∨ k = g) w w') (fun w1 hb => ?_)
  by_cases e0 : xs = []
  · subst e0
    refine (lay0_is (h.keep hb) hs hwf h0 h63 hF hg hu1 (.inl rfl) had hf hsl hpl a cap h2).mono ?_
    rintro e w2 ⟨rfl, hb2⟩
    refine ⟨rfl, ?_, Upd.below (hb.trans (hb2.mono hb.size))⟩
    have e : m.dat g (dl (m.d g) [] 0) = m := by unfold MS.dat; rw [dl_zero, fup_id _ _ _ rfl]
    rw [List.length_nil, e]
    exact (h.keep hb).keep hb2
  · obtain ⟨bb, off, rfl, hlt, hc⟩ := h3.resolve_left e0
    have hnm := hne e0 ⟨bb, off, none⟩ _ _ rfl
    refine (layG_is (h.keep hb) hs hwf h0 h63 hF hg hh hu1 had hf hsl hpl hn (Nat.lt_of_lt_of_le hlt hb.size) (fun e => hnm (.inl e)) (fun e => hnm (.inr (.inr (.inr (.inr (e ▸ hg)))))) h1 h2 (fun i hi => (hb.cell (p := ⟨bb, off + i, none⟩) hlt).trans (hc i hi))).mono ?_
    rintro e w2 ⟨rfl, q1, q2⟩
    exact ⟨rfl, q1, (Upd.below hb).trans q2⟩
/-- what stays of a page that somebody else has, too, behind a write -/
structure Stays (m m2 : MS) (b g : Nat) : Prop where
  S : m2.S = m.S
  Fo : ∀ b', b' ≠ b → m2.F b' = m.F b'
  p1 : g ∈ m2.pl
  d1 : m2.d g = m.d g
  h1 : m2.h g = true
theorem writeS_is (h : MemG w M so fr sl m) (hs : m.S s = some b) (hwf : (Lit.int .i64 s).wf = true) (h0 : 0 ≤ pg) (h63 : pg < 64) (hF : m.F b pg = some (g, 3)) (hg : g ∈ m.pl) (hh : m.h g = true) (hu1 : m.u g = 2) (had : ad = 16 * pg) (hf : 0 ≤ fr ∧ fr ≤ 1000) (hsl : 0 ≤ sl ∧ sl ≤ 1000) (hpl : (m.pl.length : Int) + 1 ≤ fr + sl) (hct : (m.pl.countP m.h : Int) < fr) (hnF : m.nF b < 10000)
    {v : Value} {xs : List Int} (hv : At (Value.int .u8) 0 w v xs) (hn : xs.length ≤ 16) (hne : xs ≠ [] → ∀ a n c, v = .slice (some a) n c → ¬ mB M so m a.block) :
    Calls Tryz.prog 9 #[.pointer (some ⟨M, 0, none⟩), .int .i64 s, .int .i64 ad, v] w fun e w' => e = .returned (.int .i64 0) ∧ ∃ m2, MemG w' M so fr sl m2 ∧ Stays m m2 b g ∧ Upd (mB M so m) w w' ∧ ∀ j, mB M so m2 j → mB M so m j ∨ w.heap.size ≤ j := by
  obtain ⟨a, cap, rfl, h1, h2, h3⟩ := hv
  refine write_by h hs hwf h0 h63 hF had hn h2 (P := fun w' => ∃ m2, MemG w' M so fr sl m2 ∧ Stays m m2 b g ∧ Upd (mB M so m) w w' ∧ ∀ j, mB M so m2 j → mB M so m j ∨ w.heap.size ≤ j) (fun w1 hb => ?_)
  by_cases e0 : xs = []
  · subst e0
    refine (lay0_is (h.keep hb) hs hwf h0 h63 hF hg hu1 (.inr rfl) had hf hsl (by omega) a cap h2).mono ?_
    rintro e w2 ⟨rfl, hb2⟩
    exact ⟨rfl, m, (h.keep hb).keep hb2, ⟨rfl, fun _ _ => rfl, hg, rfl, hh⟩, Upd.below (hb.trans (hb2.mono hb.size)), fun j hj => .inl hj⟩
  · rcases h3 with e | ⟨bb, off, rfl, hlt, hc⟩
    · exact absurd e e0
    · have hnm := hne e0 ⟨bb, off, none⟩ _ _ rfl
      refine (layS_is (h.keep hb) hs hwf h0 h63 hF hg hh hu1 had hf hsl hpl hct hnF (List.length_pos_iff.2 e0) hn (Nat.lt_of_lt_of_le hlt hb.size) hnm h1 h2 (fun i hi => (hb.cell (p := ⟨bb, off + i, none⟩) hlt).trans (hc i hi))).mono ?_
      rintro e w2 ⟨rfl, m2, g2, q1, q2, q3⟩
      exact ⟨rfl, m2, q1, ⟨q2.S, q2.Fo, q2.p1, q2.d1, q2.h1⟩, (Upd.below hb).trans q3, fun j hj => (q2.mb M so j hj).imp_right (Nat.le_trans hb.size)⟩
end
end Go.Proofs.YtmdjkoiglghipaaGreatDoor
namespace Go.Proofs.YtmdjkoiglghipaaGreatDoor
open Go.RowKit
set_option linter.unusedVariables false
set_option linter.unusedSimpArgs false
section
variable {w0 w w' : World} {k : KC} {s : KSt} {l : List (Nat × Array Value)} {p : Nat}
set_option maxHeartbeats 400000 in
theorem mem_is (h : KT w k s) : Calls Tryz.prog 8 #[.pointer (some ⟨k.K, 0, none⟩)] w fun e w' => e = .returned (.pointer (some ⟨k.M, 0, none⟩)) ∧ w = w' := by
  have q1 : w.cell? ⟨k.K, 1, none⟩ = some (.pointer (some ⟨k.M, 0, none⟩)) := by rw [h.kr.cell (by decide), h.c1]
  clear h
  go_enter Tryz.func8, Tryz.ntmps8
  go_wp2_with fail
  go_ret
  exact ⟨rfl, rfl⟩
set_option maxHeartbeats 400000 in
theorem spaceK_is (h : KT w k s) (p1 : 1 ≤ p) (p16 : p ≤ 16) (hl : (s.t p).st = 1) {s1 : Int} (hs : s.c (8 + p * 38) = .int .i64 s1) : Calls Tryz.prog 7 #[.pointer (some ⟨k.K, 0, none⟩), .int .i64 p] w fun e w' => e = .returned (.tuple #[.int .i64 s1, .int .i64 0]) ∧ w = w' := by
  have q1 : w.cell? ⟨k.K, 8 + p * 38, none⟩ = some (.int .i64 s1) := by rw [h.kr.cell (by omega), hs]
  have HL := Lib.hid (livingP_is h p1 p16 hl)
  have i17 : (p : Int) < 17 := by omega
  have i0 : (0 : Int) ≤ p := by omega
  clear h hs hl
  go_enter Tryz.func7, Tryz.ntmps7
  go_wp2_with (go_at_call 16; refine HL.out.mono ?_; rintro e1 w1 ⟨rfl, rfl⟩)
  go_ret2
  exact ⟨rfl, rfl⟩
/-- a law's state, its rows of whatever type -/
structure EX (w0 w : World) (k : KC) (s : KSt) (l : List (Nat × Nat × Array Value)) : Prop where
  kt : KT w k s
  hb : Below w0.heap.size w0 w
  lo : ∀ j, s.tag j ≠ 0 → w0.heap.size ≤ j
  rows : ∀ p, p ∈ l → Row w p.1 p.2.1 p.2.2 ∧ s.tag p.1 = 0
theorem EX.keep {l : List (Nat × Nat × Array Value)} (h : EX w0 w k s l) (hb : Below w.heap.size w w') : EX w0 w' k s l := ⟨h.kt.keep hb, h.hb.trans (hb.mono h.hb.size), h.lo, fun p hp => ⟨(h.rows p hp).1.keep hb, (h.rows p hp).2⟩⟩
theorem EX.el {l : List (Nat × Nat × Array Value)} (h : EX w0 w k s l) : EL w0 w k s [] := ⟨h.kt, h.hb, h.lo, fun _ q => nomatch q⟩
theorem EX.mem {l : List (Nat × Nat × Array Value)} {m' : MS} (h : EX w0 w k s l) (hm : MemG w' k.M k.so 64 64 m') (hu : Upd (mB k.M k.so s.m) w w') (hB : ∀ j, mB k.M k.so m' j → mB k.M k.so s.m j ∨ w.heap.size ≤ j) : EX w0 w' k { s with m := m', tag := tg s.tag w.heap.size (mB k.M k.so m') 6 } l := by
  refine ⟨h.kt.mem hm hu hB, h.hb.trans (hu.toBelow h.hb.size (fun j hj q => by have := h.lo j (by rw [h.kt.tM j q]; decide); omega)), fun j hj => ?_, fun p hp => ?_⟩
  · rcases Nat.lt_or_ge j w.heap.size with q | q
    · rw [show ({ s with m := m', tag := tg s.tag w.heap.size (mB k.M k.so m') 6 } : KSt).tag j = s.tag j from tg_old q] at hj
      exact h.lo j hj
    · exact Nat.le_trans h.hb.size q
  · obtain ⟨r1, r2⟩ := h.rows p hp
    exact ⟨r1.upd hu (fun q => by rw [h.kt.tM _ q] at r2; cases r2), (tg_old r1.lt).trans r2⟩
theorem EX.far {l : List (Nat × Nat × Array Value)} (h : EX w0 w k s l) {j : Nat} (hj : j < w0.heap.size) : ¬ mB k.M k.so s.m j := fun q => by
  have := h.lo j (by rw [h.kt.tM j q]; decide)
  omega
theorem EX.push {l : List (Nat × Nat × Array Value)} (h : EX w0 w k s l) {b T : Nat} {A : Array Value} (hr : Row w b T A) (ht : s.tag b = 0) : EX w0 w k s ((b, T, A) :: l) := ⟨h.kt, h.hb, h.lo, fun p hp => by
  rcases List.mem_cons.1 hp with rfl | hp
  · exact ⟨hr, ht⟩
  · exact h.rows p hp⟩
theorem EX.ask {T : KSt → Int → Int → Int → Prop} {A : Array Value} {l : List (Nat × Nat × Array Value)} (h : EX w0 w k s l) (haw : Awake s p) (hA : A.size = 7) {num : Int} (hn : num = 1 ∨ num = 2 ∨ num = 4 ∨ num = 23) (ha : A[0]? = some (.int .i64 num)) (hs : Spec w (KOut w.heap.size k s.tag T) 46 #[.pointer (some ⟨k.K, 0, none⟩), .int .i64 p, .agg A]) :
    Calls Tryz.prog 6 #[.pointer (some ⟨k.K, 0, none⟩), .int .i64 p, .agg A] w fun e2 w' => ∃ s' e a b, e2 = .returned (.agg (ansV e a b (.slice none 0 0))) ∧ T s' e a b ∧ EX w0 (w'.alloc (.cells (ansV e a b (.slice none 0 0)) 33)) k s' ((w'.heap.size, 33, ansV e a b (.slice none 0 0)) :: l) := by
  have ok := kout_ok (k := k) (w0 := w) (tag0 := s.tag) h.kt.tz T
  refine (askP_is ok (Below.refl _ _) h.kt haw hA (doP_is ok hn hA ha hs)).mono ?_
  rintro e2 w' ⟨X, rfl, hX, hone, hu, ho⟩
  obtain ⟨s', e, a, b, hk, hf, rfl, hT, hU⟩ := ho
  have z0 := h.hb.size
  have z1 := hU.size
  have al := Go.Joins.below_alloc1 w' (.cells (ansV e a b (.slice none 0 0)) 33)
  refine ⟨s', e, a, b, rfl, hT, hk.keep al, (h.hb.trans (hU.toBelow z0 (fun j hj q => by have := h.lo j q; omega))).trans (al.mono (by omega)), fun j hj => ?_, fun q hq => ?_⟩
  · rcases hf j hj with q | q
    · exact h.lo j q
    · omega
  · rcases List.mem_cons.1 hq with rfl | hq
    · exact ⟨row_new _ _ _, hk.tz _ (Nat.le_refl _)⟩
    · obtain ⟨r1, r2⟩ := h.rows q hq
      refine ⟨(r1.upd hU (fun e => e r2)).keep al, ?_⟩
      cases Nat.eq_zero_or_pos (s'.tag q.1) with
      | inl e => exact e
      | inr e =>
        rcases hf q.1 (by omega) with e2 | e2
        · exact absurd r2 e2
        · have := r1.lt; omega
end
end Go.Proofs.YtmdjkoiglghipaaGreatDoor
namespace Go.Proofs.YtmdjkoiglghipaaGreatDoor
open Go.RowKit
set_option linter.unusedVariables false
set_option linter.unusedSimpArgs false
/-- behind the map of a page: g, with bytes d -/
structure Q1 (s0 s : KSt) (sp g : Nat) (pg : Int) (d : Nat → Int) : Prop where
  c : s.c = s0.c
  t : s.t = s0.t
  fs : s.fs = s0.fs
  fd : s.fd = s0.fd
  l : s.l = s0.l
  cw : s.cw = s0.cw
  S : s.m.S = s0.m.S
  nS : s.m.nS = 1
  pl : s.m.pl = [g]
  F : s.m.F sp pg = some (g, 3)
  Fo : ∀ k, k ≠ pg → s.m.F sp k = none
  nF : s.m.nF sp ≤ 1
  u : s.m.u g = 1
  h : s.m.h g = true
  d : s.m.d g = d
/-- behind the fork -/
structure R1 (s : KSt) (nb sp g : Nat) (pg : Int) (d : Nat → Int) : Prop where
  t : s.t = t1
  p1 : s.c 46 = .int .i64 1
  p2 : s.c 84 = .int .i64 2
  S1 : s.m.S 1 = some sp
  S2 : s.m.S 2 = some nb
  ne : nb ≠ sp
  F1 : s.m.F sp pg = some (g, 3)
  F2 : s.m.F nb pg = some (g, 3)
  pl : s.m.pl = [g]
  u : s.m.u g = 2
  h : s.m.h g = true
  d : s.m.d g = d
  nF : s.m.nF sp ≤ 1
section
variable {w0 w wz : World} {B K P Wh Fi Pr R M so sp T cc wb g : Nat} {c : Nat → Value} {tag : Nat → Nat} {k : KC} {s : KSt} {A : Array Value} {pg : Int} {d : Nat → Int}
theorem ask_map1 (hs : KS wz B K P Wh Fi Pr R M so sp c) (h : KT w0 k (sS0 c tag T cc sp wb)) (h0 : 0 ≤ pg) (h63 : pg < 64) (hA : A.size = 7) (ha : A[0]? = some (.int .i64 23)) (ha1 : A[1]? = some (.int .i64 pg)) (ha2 : A[2]? = some (.int .i64 ((1 : Nat) : Int))) (ha3 : A[3]? = some (.int .i64 3)) :
    Spec w0 (KOut w0.heap.size k tag (fun s' e a b => e = 0 ∧ ∃ g, Q1 (sS0 c tag T cc sp wb) s' sp g pg (fun _ => 0))) 46 #[.pointer (some ⟨k.K, 0, none⟩), .int .i64 1, .agg A] := by
  refine proc_map (p := 1) h (by decide) (by decide) hA ha ha1 ha2 ha3 (s1 := 1) (b := sp) hs.t0 rfl (by decide) h0 (by omega) (by omega) (by decide) (by decide) (fun j _ => rfl) (by show ((0 : Nat) : Int) + ((1 : Nat) : Int) ≤ 64; decide) (by show ((0 : Nat) : Int) + ((1 : Nat) : Int) ≤ 128; decide) (by show 0 < 10000; decide) ?_
  intro B0 m' new tag' hlen q
  obtain ⟨g, rfl⟩ : ∃ g, new = [g] := List.length_eq_one_iff.1 hlen
  have hF : m'.F sp = fun k => if pg ≤ k ∧ k < pg + ([g] : List Nat).length then (([g] : List Nat)[(k - pg).toNat]?).map (fun g => (g, 3)) else none := by rw [q.F, fup_same]; rfl
  have hg := q.nd g (by simp)
  refine ⟨rfl, g, rfl, rfl, rfl, rfl, rfl, rfl, q.S, q.nS, by show m'.pl = _; rw [q.pl]; rfl, ?_, fun j hj => ?_, ?_, hg.2.1, hg.2.2, hg.1⟩
  · show m'.F sp pg = _
    rw [hF]
    simp
    omega
  · show m'.F sp j = _
    rw [hF]
    dsimp only
    rw [if_neg (by simp; omega)]
  · show m'.nF sp ≤ 1
    rw [q.nF, fup_same]
    exact Nat.le_refl _
theorem Q1.dat {s0 : KSt} (q : Q1 s0 s sp g pg d) (d' : Nat → Int) (tag' : Nat → Nat) : Q1 s0 { s with m := s.m.dat g d', tag := tag' } sp g pg d' := ⟨q.c, q.t, q.fs, q.fd, q.l, q.cw, q.S, q.nS, q.pl, q.F, q.Fo, q.nF, q.u, q.h, fup_same _ _ _⟩
theorem R1.tagged {nb : Nat} (q : R1 s nb sp g pg d) (tag' : Nat → Nat) : R1 { s with m := s.m, tag := tag' } nb sp g pg d := ⟨q.t, q.p1, q.p2, q.S1, q.S2, q.ne, q.F1, q.F2, q.pl, q.u, q.h, q.d, q.nF⟩
/-- a slice of its own as a row -/
theorem ob_row {w : World} {B : Nat} {v : Value} {l : List Int} (h : OB B w v l) (h0 : l ≠ []) : ∃ g cap cur, v = .slice (some ⟨g, 0, none⟩) l.length cap ∧ B ≤ g ∧ Row w g 5 cur ∧ ∀ w', Row w' g 5 cur → At (Value.int .u8) 0 w' v l := by
  rcases h.2 with ⟨_, h1⟩ | ⟨g, cap, cur, rfl, hB, hg, h1, h2, h3, h4⟩
  · exact absurd (List.eq_nil_of_length_eq_zero h1) h0
  · refine ⟨g, cap, cur, rfl, hB, hg, fun w' hr => ⟨_, cap, rfl, h1, h2, .inr ⟨g, 0, rfl, hr.lt, fun i hi => ?_⟩⟩⟩
    rw [hr.cell, Nat.zero_add]
    have e : (l.map u8V)[i]? = some (u8V (l.getD i 0)) := by rw [List.getElem?_map, List.getElem?_eq_getElem hi]; simp [hi]
    rw [← h4, Nat.mul_one, List.getElem?_take, if_pos hi, Array.getElem?_toList] at e
    exact e
theorem ask_fork1 (hs : KS wz B K P Wh Fi Pr R M so sp c) (h : KT w k s) (q : Q1 (sS0 c tag T cc sp wb) s sp g pg d) (hw : sp < w.heap.size) :
    Spec w (KOut w.heap.size k s.tag (fun s e a b => e = 0 ∧ a = 2 ∧ b = 0 ∧ ∃ nb, R1 s nb sp g pg d)) 104 #[.pointer (some ⟨k.K, 0, none⟩), .int .i64 1] := by
  have hc := hs.calm
  have hcc : s.c = c := q.c
  have hSS : s.m.S = fun x => if x = 1 then some sp else none := q.S
  have hlone : Lone (s.m.F sp) := fun y y' g1 r r' e1 e2 => by
    by_cases a1 : y = pg
    · by_cases a2 : y' = pg
      · rw [a1, a2]
      · rw [q.Fo y' a2] at e2; cases e2
    · rw [q.Fo y a1] at e1; cases e1
  have hpl : ∀ y g1 r, s.m.F sp y = some (g1, r) → g1 ∈ s.m.pl ∧ 0 ≤ s.m.u g1 ∧ s.m.u g1 < 1000000 := fun y g1 r e => by
    by_cases a1 : y = pg
    · rw [a1, q.F] at e
      injection e with e
      injection e with e1 e2
      subst e1
      rw [q.pl, q.u]
      exact ⟨by simp, by decide, by decide⟩
    · rw [q.Fo y a1] at e; cases e
  have hm : MayFork s.m 1 sp 2 := ⟨by rw [hSS]; rfl, by decide, by decide, by decide, by rw [hSS]; rfl, fun j h1 h2 => ⟨sp, by obtain rfl : j = 1 := (by omega); rw [hSS]; rfl⟩, by rw [q.nS]; decide, hlone, hpl, by have := q.nF; omega⟩
  have hst : s.t = ProcLaw.start := q.t
  refine kfork_is (p := 1) (c := 2) (s1 := 1) (b := sp) (s2 := 2) h ⟨by decide, by decide, by rw [hst]; exact start1⟩ (by rw [hcc]; exact hs.one) (by rw [hcc]; exact hs.t0) hm (by decide) (by decide) (by rw [hst]; exact start2) (fun j h1 h2 => by obtain rfl : j = 1 := (by omega); rw [hst]; exact start1n) (by rw [hcc]; exact hs.tk.2.2.2.1) (bw := wb) (by rw [q.cw]; rfl) ?_ (by rw [hcc]; exact hc.2) (by rw [q.cw]; rfl) (by rw [q.l]; rfl) (by rw [q.l]; show 1 < 1000; decide) (by decide) (fun _ _ => by rw [q.fd]; rfl) (fun _ _ => by rw [q.fs]; exact f0n) ?_
  · rw [hcc]
    show c 64 = _
    rw [hs.ck 64 (by decide) (by decide) (.inr (by decide))]
    unfold kz
    kernel_rfl
  · intro m' nb c' tag' ad' cap' hnb hf hco h0 hsg hsl
    have hne : nb ≠ sp := fun e => by omega
    have hS : m'.S = fun x => if x = 2 then some nb else s.m.S x := hf.S
    have hFn : m'.F nb = s.m.F sp := by rw [hf.F, fup_same]
    have hFs : m'.F sp = s.m.F sp := by rw [hf.F, fup_off _ _ (fun e => hne e.symm)]
    refine ⟨rfl, rfl, rfl, nb, by show ProcLaw.forked s.t 2 1 = t1; rw [hst]; rfl, ?_, h0, ?_, ?_, hne, by show m'.F sp pg = _; rw [hFs]; exact q.F, by show m'.F nb pg = _; rw [hFn]; exact q.F, by show m'.pl = _; rw [hf.pl]; exact q.pl, ?_, by show m'.h g = _; rw [hf.h]; exact q.h, by show m'.d g = _; rw [hf.d]; exact q.d, ?_⟩
    · show c' 46 = _
      rw [hco 46 (.inl (by decide)), hcc]; exact hs.t0
    · show m'.S 1 = _
      rw [hS, hSS]; rfl
    · show m'.S 2 = _
      rw [hS]; rfl
    · show m'.u g = 2
      rw [hf.u0 g ⟨pg, 3, q.F⟩, q.u]; rfl
    · show m'.nF sp ≤ 1
      rw [hf.nF sp (fun e => hne e.symm)]; exact q.nF
end
end Go.Proofs.YtmdjkoiglghipaaGreatDoor
namespace Go.Proofs.YtmdjkoiglghipaaGreatDoor
theorem and255 (x : Int) : bits .and .i64 x 255 = x % 256 := by
  have hb : (x % 18446744073709551616).toNat &&& 255 = (x % 18446744073709551616).toNat % 256 := Nat.and_two_pow_sub_one_eq_mod _ 8
  have h5 : (BitVec.ofInt 64 255).toNat = 255 := by decide
  have hx : (BitVec.ofInt 64 x).toNat = (x % 18446744073709551616).toNat := by rw [BitVec.toNat_ofInt]; rfl
  have e : bits .and .i64 x 255 = IntKind.i64.wrap ((BitVec.ofInt 64 x &&& BitVec.ofInt 64 255).toNat : Int) := rfl
  rw [e, BitVec.toNat_and, h5, hx, hb]
  rw [wraps_i64 _ (by omega) (by omega)]
  omega
end Go.Proofs.YtmdjkoiglghipaaGreatDoor
namespace Go.Proofs.YtmdjkoiglghipaaGreatDoor
set_option linter.unusedSimpArgs false
open Go.RowKit
set_option linter.unusedVariables false


/-- where the first number that is not 0 stands; -1 -/
def firstBad : List Int → Int → Int
  | [], _ => -1
  | e :: t, i => if e = 0 then firstBad t (i + 1) else i
theorem firstBad_ge (l : List Int) : ∀ i, 0 ≤ i → (0 ≤ firstBad l i ↔ l.all (· == 0) = false) ∧ -1 ≤ firstBad l i := by
  induction l with
  | nil => intro i hi; simp [firstBad]
  | cons e t ih =>
    intro i hi
    simp only [firstBad]
    by_cases h : e = 0
    · rw [if_pos h]
      have := ih (i + 1) (by omega)
      simpa [h] using this
    · rw [if_neg h]
      simp [h]
      omega
theorem firstBad_skip (l : List Int) : ∀ (k : Nat) (i : Int), k ≤ l.length → (∀ j, j < k → l.getD j 0 = 0) → firstBad l i = firstBad (l.drop k) (i + k) := by
  induction l with
  | nil => intro k i hk _; simp at hk; subst hk; simp
  | cons e t ih =>
    intro k i hk h
    cases k with
    | zero => simp
    | succ k =>
      have h0 := h 0 (by omega)
      simp at h0
      simp only [firstBad, if_pos h0, List.drop_succ_cons]
      rw [ih k (i + 1) (by simpa using hk) (fun j hj => by simpa using h (j + 1) (by omega))]
      congr 1; omega

theorem bad_any (e : Int) (w : World) : Calls Tryz.prog 26 #[.int .i64 e] w fun r w' => r = .returned (.bool (e != 0)) ∧ w = w' := by
  go_enter Tryz.func26, Tryz.ntmps26
  go_wp2
  go_ret
  exact ⟨rfl, rfl⟩

theorem indexBad_any (b cap : Nat) (l : List Int) (w : World) (hl : l.length ≤ 4294967296) (hc : ∀ i, i < l.length → w.cell? ⟨b, i, none⟩ = some (.int .i64 (l.getD i 0))) :
    Calls Tryz.prog 51 #[.slice (some ⟨b, 0, none⟩) l.length cap, .func (.func 26) #[] #[]] w fun e w' => e = .returned (.int .i64 (firstBad l 0)) ∧ w = w' := by
  obtain ⟨n, hn⟩ : ∃ n, n = l.length := ⟨_, rfl⟩
  have HC := Lib.hid hc
  have HN := Lib.hid hn
  rw [← hn] at hl ⊢
  clear hc hn
  go_enter Tryz.func51, Tryz.ntmps51
  go_wp2_with fail
  go_loop [8] (fun i => ∃ k : Nat, k ≤ n ∧ i = .int .i64 k ∧ Hid (∀ j, j < k → l.getD j 0 = 0)) (fun i => n - (intOf i).toNat)
  case atStart => exact ⟨0, Nat.zero_le _, rfl, fun j hj => absurd hj (Nat.not_lt_zero _)⟩
  case round =>
    obtain ⟨k, hk, rfl, HM⟩ := hrel
    by_cases hlt : k < n
    · obtain ⟨x, hx⟩ : ∃ x, x = l.getD k 0 := ⟨_, rfl⟩
      have g1 := HC.out k (by rw [← HN.out]; exact hlt)
      rw [← hx] at g1
      have HX := Lib.hid hx
      clear hx
      by_cases hz : x = 0
      · have hb : (x != 0) = false := by simp [hz]
        have HZ := Lib.hid hz
        clear hz
        go_wp2_with (go_at_call 26; refine (bad_any _ _).mono ?_; rintro e w' ⟨rfl, rfl⟩)
        go_round
        case rel => exact ⟨k + 1, by omega, by go_num, fun j hj => by
          rcases Nat.lt_succ_iff_lt_or_eq.1 hj with h | rfl
          · exact HM.out j h
          · rw [← HX.out]; exact HZ.out⟩
        case measure => simp [intOf]; omega
      · have hb : (x != 0) = true := by simp [hz]
        have HZ := Lib.hid hz
        clear hz
        go_wp2_with (go_at_call 26; refine (bad_any _ _).mono ?_; rintro e w' ⟨rfl, rfl⟩)
        go_ret
        refine ⟨ret_int ?_, rfl⟩
        rw [firstBad_skip l k 0 (by rw [← HN.out]; omega) HM.out, List.drop_eq_getElem_cons (by rw [← HN.out]; exact hlt), firstBad, if_neg]
        · omega
        · have := HX.out
          simp only [List.getD, List.getElem?_eq_getElem (show k < l.length by rw [← HN.out]; exact hlt), Option.getD_some] at this
          rw [← this]; exact HZ.out
    · obtain rfl : k = n := by omega
      go_wp2_with fail
      go_ret
      refine ⟨ret_int ?_, rfl⟩
      rw [firstBad_skip l k 0 (by rw [← HN.out]; omega) HM.out, List.drop_of_length_le (by rw [← HN.out]; omega)]
      rfl

theorem good_any (b cap : Nat) (l : List Int) (w : World) (hl : l.length ≤ 4294967296) (hc : ∀ i, i < l.length → w.cell? ⟨b, i, none⟩ = some (.int .i64 (l.getD i 0))) :
    Calls Tryz.prog 11 #[.slice (some ⟨b, 0, none⟩) l.length cap] w fun e w' => e = .returned (.bool (l.all (· == 0))) ∧ w = w' := by
  have HI := Lib.hid (indexBad_any b cap l w hl hc)
  obtain ⟨f, hf⟩ : ∃ f, f = firstBad l 0 := ⟨_, rfl⟩
  have hfb := firstBad_ge l 0 (by omega)
  rw [← hf] at HI hfb
  obtain ⟨h1, h2⟩ := hfb
  clear hc hf
  obtain ⟨n, hn⟩ : ∃ n, n = l.length := ⟨_, rfl⟩
  rw [← hn] at HI ⊢
  clear hn hl
  cases hg : l.all (· == 0)
  · have hf0 : 0 ≤ f := h1.2 hg
    clear h1 hg
    go_enter Tryz.func11, Tryz.ntmps11
    go_wp2_with (first | (go_at_call 25; go_in) | (go_at_call 51; refine HI.out.mono ?_; rintro e w' ⟨rfl, rfl⟩))
    go_ret
    exact ⟨rfl, rfl⟩
  · have hf0 : f < 0 := by
      rcases Int.lt_or_le f 0 with h | h
      · exact h
      · have := h1.1 h; rw [hg] at this; cases this
    clear h1 hg
    go_enter Tryz.func11, Tryz.ntmps11
    go_wp2_with (first | (go_at_call 25; go_in) | (go_at_call 51; refine HI.out.mono ?_; rintro e w' ⟨rfl, rfl⟩))
    go_ret
    exact ⟨ret_bool (by simp; omega), rfl⟩
end Go.Proofs.YtmdjkoiglghipaaGreatDoor
