/- The walks of package pipe at one pipe: Read, Less. The kernel with one pipe: its state, and what may be said behind a call. -/
import Derived.Test.YthdpeecahpedeaaGreatDoorPipe2
import Derived.Test.YthdpeecahpedeaaGreatDoorAskD
namespace Go.Proofs.YthdpeecahpedeaaGreatDoor
open Go.RowKit
set_option linter.unusedVariables false
set_option linter.unusedSimpArgs false
theorem at_take {w : World} {a : Option Addr} {c k : Nat} {l : List Int} (h : At (Value.int .u8) 0 w (.slice a l.length c) l) (hk : k ≤ l.length) : At (Value.int .u8) 0 w (.slice a k c) (l.take k) := by
  obtain ⟨a', c', e, hl, hm, h⟩ := h
  injection e with e1 e2 e3
  subst e1 e3
  have hlt : (l.take k).length = k := by rw [List.length_take]; omega
  refine ⟨a, c, by rw [hlt], by omega, hm, ?_⟩
  rcases h with h | ⟨b, off, ha, hb, hc⟩
  · subst h; exact .inl (by simp)
  · exact .inr ⟨b, off, ha, hb, fun i hi => by
      rw [hc i (by omega)]
      congr 2
      rw [hlt] at hi
      simp [List.getD, List.getElem?_take, hi]⟩
theorem at_drop {w : World} {a : Option Addr} {c k : Nat} {l : List Int} (h : At (Value.int .u8) 0 w (.slice a l.length c) l) (hk : k ≤ l.length) : At (Value.int .u8) 0 w (.slice (if c = k then a else Option.map (fun x => x.add k) a) (l.length - k) (c - k)) (l.drop k) := by
  obtain ⟨a', c', e, hl, hm, h⟩ := h
  injection e with e1 e2 e3
  subst e1 e3
  have hlt : (l.drop k).length = l.length - k := by rw [List.length_drop]
  refine ⟨_, c - k, by rw [hlt], by omega, by omega, ?_⟩
  rcases h with h | ⟨b, off, ha, hb, hc⟩
  · subst h; exact .inl (by simp)
  · by_cases hck : c = k
    · left
      apply List.eq_nil_of_length_eq_zero
      omega
    · rw [if_neg hck, ha]
      refine .inr ⟨b, off + k, by simp [Addr.add_lit], hb, fun i hi => ?_⟩
      rw [Nat.add_assoc, hc (k + i) (by omega)]
      congr 2
      simp [List.getD, List.getElem?_drop]
section
variable {w w' : World} {P O : Nat} {v dv : Value} {l dl : List Int} {e0 e1 : Int}
set_option maxRecDepth 100000 in
set_option maxHeartbeats 1000000 in
/-- nothing is there, and somebody may write: the reader waits -/
theorem pread_wait (h : Pi w P O v [] 1 1) {n : Nat} (hn : 0 < n) (hn2 : n ≤ 256) : Calls Tryz.prog 153 #[.pointer (some ⟨P, 0, none⟩), .int .i64 1, .int .i64 n] w fun e w' => e = .returned (.tuple #[.slice none 0 0, .int .i64 9]) ∧ w = w' := by
  have HE := Lib.hid (pend0_is h)
  have o1 := h.o1
  have o2 := h.o2
  obtain ⟨p, c', rfl⟩ := h.ob.form
  have i0 : ¬ (n : Int) < 0 := by omega
  have i1 : (0 : Int) < n := by omega
  have i2 : ¬ (256 : Int) < n := by omega
  clear h
  simp only [List.length_nil] at o2
  go_enter Tryz.func153, Tryz.ntmps153
  go_wp2_with (go_at_call 215; refine HE.out.mono ?_; rintro e1 w1 ⟨rfl, rfl⟩)
  go_ret2
  exact ⟨rfl, rfl⟩
def RdPost (P O : Nat) (l : List Int) (k : Nat) (e1 : Int) (w : World) (e : Ending) (w' : World) : Prop :=
  ∃ dv, e = .returned (.tuple #[dv, .int .i64 0]) ∧ OB w.heap.size w' dv (l.take k) ∧ ∃ v', Pi w' P O v' (l.drop k) 1 e1 ∧ Upd (fun b => b = O) w w' ∧ ∀ g, v'.ownBlock = some g → w.heap.size ≤ g
/-- what the second Clone leaves -/
theorem own_formN {w : World} {B : Nat} {v : Value} {l : List Int} (h : OB B w v l) : ∃ p n c, v = .slice p n c := by
  obtain ⟨p, c, e⟩ := h.form
  exact ⟨p, _, c, e⟩
theorem pread_set (h : Pi w P O v l 1 e1) {w2 : World} (hb : Below w.heap.size w w2) {v' : Value} {l' : List Int} (ho : OB w.heap.size w2 v' l') : Pi (w2.setCell ⟨O, 2, none⟩ v') P O v' l' 1 e1 ∧ Upd (fun b => b = O) w (w2.setCell ⟨O, 2, none⟩ v') := by
  have u0 : Upd (fun k => k = O) w2 (w2.setCell ⟨O, 2, none⟩ v') := Upd.set _ _ rfl
  have k := h.keep hb
  have f : ∀ {b}, b < w.heap.size → v'.ownBlock ≠ some b := fun hb => ho.far hb
  exact ⟨⟨set_blk h.ne k.p0, Nat.lt_of_lt_of_le k.pl u0.size, set_off (by decide) k.o0, set_off (by decide) k.o1, set_same k.o2, fun j => by rw [World.frozen?_setCell]; exact k.of j, Nat.lt_of_lt_of_le k.ol u0.size, (ho.base (Nat.zero_le _)).upd u0 (fun g hg e => f h.ol (by rw [hg, e])), h.ne, f h.pl, f h.ol⟩, (Upd.below hb).trans u0⟩
set_option maxRecDepth 100000 in
set_option maxHeartbeats 4000000 in
theorem pread_is (h : Pi w P O v l 1 e1) (hl : l.length ≤ 64) (hw : l.length ≠ 0) {n k : Nat} (hn : 0 < n) (hn2 : n ≤ 256) (hk : k = min n l.length) : Calls Tryz.prog 153 #[.pointer (some ⟨P, 0, none⟩), .int .i64 1, .int .i64 n] w (RdPost P O l k e1 w) := by
  have HE := Lib.hid (pend0_is h)
  have o1 := h.o1
  have o2 := h.o2
  obtain ⟨pv, cv, hv⟩ := h.ob.form
  have hat := h.ob.at
  have HC1 : Hid (Calls Tryz.prog 103 #[.slice pv k cv] w (CloneB (l.take k) w)) := Lib.hid (cloneB_is (by rw [List.length_take]; omega) (at_take (by rw [← hv]; exact hat) (by omega)))
  have HH := Lib.hid h
  have HV := Lib.hid hv
  have HL := Lib.hid hl
  have HK := Lib.hid hk
  have hcv : l.length ≤ cv := by obtain ⟨a', c', e, hl, hm, _⟩ := hat; rw [hv] at e; injection e with _ _ e3; omega
  have i0 : ¬ (n : Int) < 0 := by omega
  have i1 : (0 : Int) < n := by omega
  have i2 : ¬ (256 : Int) < n := by omega
  have i4 : (k : Int) ≤ cv := by omega
  have i5 : (k : Int) ≤ l.length := by omega
  rw [hv] at o2
  clear h hv hat hl
  obtain ⟨m, hm⟩ : ∃ m, m = l.length := ⟨_, rfl⟩
  rw [← hm] at o2 hw hcv i5 hk
  have HM := Lib.hid hm
  have hkk : k = n ∧ ¬ (m : Int) < n ∨ k = m ∧ (m : Int) < n := by omega
  clear hm hk
  rcases hkk with ⟨rfl, hkk⟩ | ⟨rfl, hkk⟩ 
  all_goals
    go_enter Tryz.func153, Tryz.ntmps153
    go_upto_region 9 with (go_at_call 215; refine HE.out.mono ?_; rintro e1 w1 ⟨rfl, rfl⟩)
  all_goals
    go_upto_region 10 with (go_at_call 103; refine HC1.out.mono ?_; rintro e2 w2 ⟨v2, rfl, ho2, hb2⟩)
    have hk2 := HH.out.keep hb2
    have HB2 := Lib.hid hb2
    have HO2 := Lib.hid ho2
    have hat2 := hk2.ob.at
    rw [HV.out] at hat2
    have hkl : k ≤ l.length := by have h1 := HM.out; omega
    have hat3 := at_drop hat2 hkl
    rw [← HM.out] at hat3
    have hdl : (l.drop k).length ≤ 140737488355328 := by rw [List.length_drop]; have h1 := HL.out; omega
    have o2' := hk2.o2
    rw [HV.out, ← HM.out] at o2'
    obtain ⟨p2, n2, c2, rfl⟩ := own_formN ho2
    have HHK := Lib.hid hk2
    clear HC1 HE o2 hat2 hk2 hb2 ho2 hkl hkk
    by_cases hck : cv = k
    all_goals
      first | (rw [if_pos hck, hck, Nat.sub_self] at hat3) | (rw [if_neg hck] at hat3)
      (try rw [Nat.sub_self] at hat3)
      have HC2 := Lib.hid (cloneB_is hdl hat3)
      clear hat3 hdl
      go_upto_region 11 with (go_at_call 103; go_loud (refine HC2.out.mono ?_; rintro e3 w3 ⟨v3, rfl, ho3, hb3⟩; obtain ⟨p3, n3, c3, rfl⟩ := own_formN ho3; have hk3 := HHK.out.keep hb3; have o3 := hk3.o2; have z3 := hk3.of 2; have HST := Lib.hid (pread_set HH.out (HB2.out.trans (hb3.mono HB2.out.size)) (OB.base ho3 HB2.out.size)); have HD := Lib.hid (OB.upd (OB.keep HO2.out hb3) (Upd.set w3 (i := 2) (.slice p3 n3 c3) (S := fun k => k = O) (b := O) rfl) (fun g hg e => OB.far HO2.out HH.out.ol (by rw [hg, e]))); have HN := Lib.hid (fun b hb => OB.far (b := b) (OB.base ho3 HB2.out.size) hb); clear hk3 hb3 ho3))
      generalize w3.setCell ⟨O, 2, none⟩ (.slice p3 n3 c3) = w4 at *
      go_wp2_with fail
      go_ret2
      exact ⟨_, rfl, HD.out, _, HST.out.1, HST.out.2, fun g hg => Nat.le_of_not_lt fun hlt => HN.out g hlt hg⟩
set_option maxRecDepth 100000 in
set_option maxHeartbeats 1000000 in
/-- nothing is there, and nobody may write -/
theorem pread_end (h : Pi w P O v [] 1 0) {n : Nat} (hn : 0 < n) (hn2 : n ≤ 256) : Calls Tryz.prog 153 #[.pointer (some ⟨P, 0, none⟩), .int .i64 1, .int .i64 n] w (RdPost P O [] 0 0 w) := by
  have HE := Lib.hid (pend0_is h)
  have o1 := h.o1
  have o2 := h.o2
  obtain ⟨pv, cv, hv⟩ := h.ob.form
  have hat := h.ob.at
  rw [hv] at hat
  have HC1 : Hid (Calls Tryz.prog 103 #[.slice pv 0 cv] w (CloneB [] w)) := Lib.hid (cloneB_is (by simp) hat)
  have HH := Lib.hid h
  have HV := Lib.hid hv
  have i0 : ¬ (n : Int) < 0 := by omega
  have i1 : (0 : Int) < n := by omega
  have i2 : ¬ (256 : Int) < n := by omega
  rw [hv] at o2
  simp only [List.length_nil] at o2
  clear h hv hat
  go_enter Tryz.func153, Tryz.ntmps153
  go_upto_region 10 with (first | (go_at_call 215; refine HE.out.mono ?_; rintro e1 w1 ⟨rfl, rfl⟩) | (go_at_call 103; refine HC1.out.mono ?_; rintro e2 w2 ⟨v2, rfl, ho2, hb2⟩))
  have hk2 := HH.out.keep hb2
  have HB2 := Lib.hid hb2
  have HO2 := Lib.hid ho2
  have hat2 := hk2.ob.at
  rw [HV.out] at hat2
  have o2' := hk2.o2
  rw [HV.out] at o2'
  simp only [List.length_nil] at o2'
  obtain ⟨p2, n2, c2, rfl⟩ := own_formN ho2
  have HHK := Lib.hid hk2
  clear HC1 HE o2 hk2 hb2 ho2
  by_cases hck : cv = 0
  all_goals
    (try subst hck)
    have HC2 := Lib.hid (cloneB_is (by simp) hat2)
    simp only [List.length_nil] at HC2
    clear hat2
    go_upto_region 11 with (go_at_call 103; go_loud (refine HC2.out.mono ?_; rintro e3 w3 ⟨v3, rfl, ho3, hb3⟩; obtain ⟨p3, n3, c3, rfl⟩ := own_formN ho3; have hk3 := HHK.out.keep hb3; have o3 := hk3.o2; have z3 := hk3.of 2; have HST := Lib.hid (pread_set HH.out (HB2.out.trans (hb3.mono HB2.out.size)) (OB.base ho3 HB2.out.size)); have HD := Lib.hid (OB.upd (OB.keep HO2.out hb3) (Upd.set w3 (i := 2) (.slice p3 n3 c3) (S := fun k => k = O) (b := O) rfl) (fun g hg e => OB.far HO2.out HH.out.ol (by rw [hg, e]))); have HN := Lib.hid (fun b hb => OB.far (b := b) (OB.base ho3 HB2.out.size) hb); clear hk3 hb3 ho3))
    generalize w3.setCell ⟨O, 2, none⟩ (.slice p3 n3 c3) = w4 at *
    go_wp2_with fail
    go_ret2
    exact ⟨_, rfl, HD.out, _, HST.out.1, HST.out.2, fun g hg => Nat.le_of_not_lt fun hlt => HN.out g hlt hg⟩
set_option maxRecDepth 100000 in
set_option maxHeartbeats 1000000 in
/-- the last who writes is gone, somebody reads yet -/
theorem pless_is (h : Pi w P O v l 1 1) : Calls Tryz.prog 142 #[.pointer (some ⟨P, 0, none⟩), .int .i64 1, .int .i64 1] w fun e w' => e = .returned (.int .i64 0) ∧ Pi w' P O v l 1 0 ∧ Upd (fun k => k = O) w w' := by
  have HE := Lib.hid (pend1_is h)
  have o0 := h.o0
  have o1 := h.o1
  have z0 := h.of
  have u0 : Upd (fun k => k = O) w (w.drew.setCell ⟨O, 1, none⟩ (.int .i64 0)) := (Upd.drew w).trans (Upd.set _ _ rfl)
  have k := h.keep (Below.refl _ _).drew
  have hp : Pi (w.drew.setCell ⟨O, 1, none⟩ (.int .i64 0)) P O v l 1 0 := ⟨set_blk h.ne k.p0, Nat.lt_of_lt_of_le h.pl u0.size, set_off (by decide) k.o0, set_same k.o1, set_off (by decide) k.o2, fun j => by rw [World.frozen?_setCell]; exact k.of j, Nat.lt_of_lt_of_le h.ol u0.size, k.ob.upd (Upd.set w.drew (b := O) (i := 1) (.int .i64 0) (S := fun k => k = O) rfl) (fun g hg e => h.n2 (by rw [hg, e])), h.ne, h.n1, h.n2⟩
  have d0 := hp.o0
  have d1 := hp.o1
  have HP : Hid (Pi ((w.setCell ⟨O, 1, none⟩ (.int .i64 0)).drew) P O v l 1 0) := Lib.hid hp
  have HU : Hid (Upd (fun k => k = O) w ((w.setCell ⟨O, 1, none⟩ (.int .i64 0)).drew)) := Lib.hid u0
  have heq : ∀ w : World, (Op.equalIn 10000 334 (.agg #[.int .i64 1, .int .i64 0]) (.agg #[.int .i64 0, .int .i64 0])).run Tryz.prog w = .ok false w := fun w => by kernel_rfl
  clear h u0 k hp
  go_enter Tryz.func142, Tryz.ntmps142
  go_upto_region 4 with (go_at_call 215; refine HE.out.mono ?_; rintro e1 w1 ⟨rfl, rfl⟩)
  go_region
  change ((w.setCell ⟨O, 1, none⟩ (.int .i64 0)).drew).cell? ⟨O, 0, none⟩ = _ at d0
  change ((w.setCell ⟨O, 1, none⟩ (.int .i64 0)).drew).cell? ⟨O, 1, none⟩ = _ at d1
  generalize (w.setCell ⟨O, 1, none⟩ (.int .i64 0)).drew = w2 at *
  go_wp2_with fail
  go_ret
  exact ⟨rfl, HP.out, HU.out⟩
end
end Go.Proofs.YthdpeecahpedeaaGreatDoor
namespace Go.Proofs.YthdpeecahpedeaaGreatDoor
open Go.RowKit
set_option linter.unusedVariables false
set_option linter.unusedSimpArgs false
theorem _root_.Go.Proofs.YthdpeecahpedeaaGreatDoor.ProcLaw.TabAt.upd {S : Nat → Prop} {w w' : World} {b : Nat} {t : ProcLaw.T} (h : ProcLaw.TabAt w b t) (hu : Upd S w w') (hn : ¬ S b) : ProcLaw.TabAt w' b t :=
  ⟨Nat.lt_of_lt_of_le h.lt hu.size, fun i => (hu.frozen h.lt hn).trans (h.fz i), fun k hk => (hu.cell h.lt hn).trans (h.st k hk), fun k hk => (hu.cell h.lt hn).trans (h.par k hk), fun k hk => (hu.cell h.lt hn).trans (h.gr k hk), fun k hk => (hu.cell h.lt hn).trans (h.code k hk)⟩
theorem _root_.Go.Proofs.YthdpeecahpedeaaGreatDoor.OpenLaw.OTab.upd {S : Nat → Prop} {w w' : World} {b : Nat} {fs : Nat → OpenLaw.F} {fd : Nat → Nat} (h : OpenLaw.OTab w b fs fd) (hu : Upd S w w') (hn : ¬ S b) : OpenLaw.OTab w' b fs fd :=
  ⟨Nat.lt_of_lt_of_le h.lt hu.size, fun i => (hu.frozen h.lt hn).trans (h.fz i), h.le, fun k hk => (hu.cell h.lt hn).trans (h.c0 k hk), fun k hk => (hu.cell h.lt hn).trans (h.c1 k hk), fun k hk => (hu.cell h.lt hn).trans (h.c2 k hk), fun k hk => (hu.cell h.lt hn).trans (h.c3 k hk), fun k hk => (hu.cell h.lt hn).trans (h.c4 k hk), fun k hk => (hu.cell h.lt hn).trans (h.c5 k hk), fun p j hp hj => (hu.cell h.lt hn).trans (h.d p j hp hj)⟩
theorem kb_upd {b : Nat} {w w' : World} (h : OpenLaw.KB b w w') {S : Nat → Prop} (hS : S b) : Upd S w w' := Upd.grown h hS
theorem KQ.upd {S : Nat → Prop} {w w' : World} {K Pr : Nat} {c : Nat → Value} (h : KQ w K Pr c) (hu : Upd S w w') (h1 : ¬ S K) (h2 : ¬ S Pr) : KQ w' K Pr c := ⟨h.kr.upd hu h1, h.c7, h.sl, h.sg, h.pr.upd hu h2⟩
/-- where the kernel's parts lie -/
structure KB4 (w : World) (K Pr P Fi : Nat) (c : Nat → Value) : Prop where
  kq : KQ w K Pr c
  c3 : c 3 = .pointer (some ⟨P, 0, none⟩)
  c6 : c 6 = .pointer (some ⟨Fi, 0, none⟩)
  n : K ≠ P ∧ K ≠ Fi ∧ Pr ≠ P ∧ Pr ≠ Fi ∧ P ≠ Fi
theorem KB4.upd {S : Nat → Prop} {w w' : World} {K Pr P Fi : Nat} {c : Nat → Value} (h : KB4 w K Pr P Fi c) (hu : Upd S w w') (h1 : ¬ S K) (h2 : ¬ S Pr) : KB4 w' K Pr P Fi c := ⟨h.kq.upd hu h1 h2, h.c3, h.c6, h.n⟩
theorem KB4.keep {w w' : World} {K Pr P Fi : Nat} {c : Nat → Value} (h : KB4 w K Pr P Fi c) (hb : Below w.heap.size w w') : KB4 w' K Pr P Fi c := ⟨h.kq.keep hb, h.c3, h.c6, h.n⟩
theorem KB4.q3 {w : World} {K Pr P Fi : Nat} {c : Nat → Value} (h : KB4 w K Pr P Fi c) : w.cell? ⟨K, 3, none⟩ = some (.pointer (some ⟨P, 0, none⟩)) := by rw [h.kq.kr.cell (by decide), h.c3]
theorem KB4.q6 {w : World} {K Pr P Fi : Nat} {c : Nat → Value} (h : KB4 w K Pr P Fi c) : w.cell? ⟨K, 6, none⟩ = some (.pointer (some ⟨Fi, 0, none⟩)) := by rw [h.kq.kr.cell (by decide), h.c6]
/-- a pipe's and the descriptors' state -/
structure St where
  O : Nat
  v : Value
  l : List Int
  e1 : Int
  fs : Nat → OpenLaw.F
  fd : Nat → Nat
structure PSt (w : World) (K Pr P Fi : Nat) (c : Nat → Value) (s : St) : Prop where
  k : KB4 w K Pr P Fi c
  ot : OpenLaw.OTab w Fi s.fs s.fd
  pi : Pi w P s.O s.v s.l 1 s.e1
  n : s.O ≠ K ∧ s.O ≠ Pr ∧ s.O ≠ Fi
  nv : ∀ g, s.v.ownBlock = some g → g ≠ K ∧ g ≠ Pr ∧ g ≠ Fi
/-- a state behind a call: its blocks are those ahead of it, or new ones -/
def VN (B0 : Nat) (s0 s : St) : Prop := s.O = s0.O ∧ ∀ g, s.v.ownBlock = some g → s0.v.ownBlock = some g ∨ B0 ≤ g
def Far (B0 B : Nat) (s : St) : Prop := (s.O < B0 ∨ B ≤ s.O) ∧ ∀ g, s.v.ownBlock = some g → g < B0 ∨ B ≤ g
section
variable {w w' : World} {K Pr P Fi : Nat} {c : Nat → Value} {s : St}
theorem PSt.upd {S : Nat → Prop} (h : PSt w K Pr P Fi c s) (hu : Upd S w w') (h1 : ¬ S K) (h2 : ¬ S Pr) (h3 : ¬ S P) (h4 : ¬ S Fi) (h5 : ¬ S s.O) (h6 : ∀ g, s.v.ownBlock = some g → ¬ S g) : PSt w' K Pr P Fi c s :=
  ⟨h.k.upd hu h1 h2, h.ot.upd hu h4, h.pi.upd hu h3 h5 h6, h.n, h.nv⟩
theorem PSt.keep (h : PSt w K Pr P Fi c s) (hb : Below w.heap.size w w') : PSt w' K Pr P Fi c s :=
  h.upd (S := fun _ => False) (Upd.below hb) (fun e => e) (fun e => e) (fun e => e) (fun e => e) (fun e => e) (fun _ _ e => e)
theorem PSt.far (h : PSt w K Pr P Fi c s) (B : Nat) : Far w.heap.size B s := ⟨.inl h.pi.ol, fun g hg => .inl (h.pi.ob.lt g hg).2⟩
/-- the parts' blocks are old -/
def Old (B0 K Pr P Fi : Nat) : Prop := K < B0 ∧ Pr < B0 ∧ P < B0 ∧ Fi < B0
theorem PSt.old (h : PSt w K Pr P Fi c s) : Old w.heap.size K Pr P Fi := ⟨h.k.kq.kr.lt, h.k.kq.pr.lt, h.pi.pl, h.ot.lt⟩
/-- what an answer may be, and how the state stands behind it -/
def POut (B0 : Nat) (S : Nat → Prop) (K Pr P Fi : Nat) (c : Nat → Value) (T : St → List Int → Int → Int → Int → Prop) (w : World) (X : Array Value) (w' : World) : Prop :=
  ∃ s dl d e a b, PSt w' K Pr P Fi c s ∧ Far B0 w.heap.size s ∧ OB w.heap.size w' d dl ∧ X = ansV e a b d ∧ T s dl e a b ∧ Upd S w w'
theorem pout_ok {w0 : World} {S : Nat → Prop} (ho : Old w0.heap.size K Pr P Fi) (T : St → List Int → Int → Int → Int → Prop) : OutOk w0 (POut w0.heap.size S K Pr P Fi c T) := by
  obtain ⟨o1, o2, o3, o4⟩ := ho
  refine ⟨?_, ?_, ?_⟩
  · rintro w w1 w2 b C X h0 h1 ⟨s, dl, d, e, a, r, hs, hf, hd, hX, hT, hU⟩ hb hb1
    have z0 := h0.size
    have u : Upd (fun k => k = b) w2 (w2.setRow b C) := Upd.setRow w2 C rfl
    refine ⟨s, dl, d, e, a, r, hs.upd u (by omega) (by omega) (by omega) (by omega) ?_ ?_, ⟨?_, ?_⟩, ?_, hX, hT, ((Upd.below h1).trans hU).trans' u (fun i hi e => by omega)⟩
    · intro q
      have := hf.1
      omega
    · intro g hg q
      have := hf.2 g hg
      omega
    · have := hf.1
      have := h1.size
      omega
    · intro g hg
      have := hf.2 g hg
      have := h1.size
      omega
    · exact (hd.upd u (fun g hg q => hd.far (b := g) (by omega) hg)).base h1.size
  · rintro w w1 w2 X h0 h1 ⟨s, dl, d, e, a, r, hs, hf, hd, hX, hT, hU⟩
    have z1 := h1.size
    refine ⟨s, dl, d, e, a, r, hs, ⟨?_, ?_⟩, hd.base h1.size, hX, hT, (Upd.below h1).trans hU⟩
    · have := hf.1
      omega
    · intro g hg
      have := hf.2 g hg
      omega
  · rintro w X w2 w3 ⟨s, dl, d, e, a, r, hs, hf, hd, hX, hT, hU⟩ hb
    exact ⟨s, dl, d, e, a, r, hs.keep hb, hf, hd.keep hb, hX, hT, hU.trans (Upd.below hb)⟩
end
theorem bd_ans (ps : Array (Nat × Value)) : Instr.build 33 ps = bdR 33 ps := rfl
theorem bd_thing (ps : Array (Nat × Value)) : Instr.build 156 ps = bdR 156 ps := rfl
theorem bd_fail (w : World) (e : Int) : (bdR 33 #[(0, .int .i64 e)]).run Tryz.prog w = .ok (.agg (ansV e 0 0 (.slice none 0 0))) w := by kernel_rfl
theorem bd_ab (w : World) (a b : Int) : (bdR 33 #[(1, .int .i64 a), (2, .int .i64 b)]).run Tryz.prog w = .ok (.agg (ansV 0 a b (.slice none 0 0))) w := by kernel_rfl
theorem bd_ea (w : World) (e a : Int) : (bdR 33 #[(0, .int .i64 e), (1, .int .i64 a)]).run Tryz.prog w = .ok (.agg (ansV e a 0 (.slice none 0 0))) w := by kernel_rfl
theorem bd_ead (w : World) (e a : Int) (p : Option Addr) (n k : Nat) : (bdR 33 #[(0, .int .i64 e), (1, .int .i64 a), (3, .slice p n k)]).run Tryz.prog w = .ok (.agg (ansV e a 0 (.slice p n k))) w := by kernel_rfl
attribute [local go_sem ↓] bd_ans bd_thing ld_ans st_ans
set_option maxRecDepth 100000 in
set_option maxHeartbeats 400000 in
theorem fail_is (w : World) (e : Int) : Calls Tryz.prog 12 #[.int .i64 e] w fun r w' => r = .returned (.agg (ansV e 0 0 (.slice none 0 0))) ∧ Below w.heap.size w w' := by
  have hbd := fun w => bd_fail w e
  have hz : ansZ = #[.int .i64 0, .int .i64 0, .int .i64 0, .slice none 0 0, .slice none 0 0, .int .i64 0, .int .i64 0, .int .i64 0, .int .i64 0, .int .i64 0, .int .i64 0] := rfl
  have hr := row_new w 33 ansZ
  have hst := ans_st hr (X := ansV e 0 0 (.slice none 0 0)) rfl (ansV_one _ _ _ rfl)
  have HLD := Lib.hid (ans_ldV hr (X := ansV e 0 0 (.slice none 0 0)) rfl)
  have HB : Hid (Below w.heap.size w ((w.alloc (.cells ansZ 33)).setRow w.heap.size (ansV e 0 0 (.slice none 0 0)))) := Lib.hid ((Upd.alloc (S := fun k => k = w.heap.size) w (.cells ansZ 33)).trans (Upd.setRow _ _ rfl) |>.toBelow (Nat.le_refl _) (fun k hk e => by omega))
  rw [hz] at hst HLD HB
  clear hr hz
  generalize ansV e 0 0 (.slice none 0 0) = X at *
  go_enter Tryz.func12, Tryz.ntmps12
  go_wp2
  exact bodyPost_ret (v := .agg X) (by rw [results_cell1 rfl]; simp [asAddr, Result.andThen, HLD.out]) rfl ⟨rfl, HB.out⟩
end Go.Proofs.YthdpeecahpedeaaGreatDoor
