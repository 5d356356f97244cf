/- The walks of package pipe at one pipe: Index, Make, find, end. The walks of package pipe at one pipe: Write, Read, Less. -/
import Derived.Test.YthdpeecahpedeaaGreatDoorAskD
import Derived.Laws.OwnMore
namespace Go.Proofs.YthdpeecahpedeaaGreatDoor
open Go.RowKit
set_option linter.unusedVariables false
set_option linter.unusedSimpArgs false
/-- pipe 1: who has its ends, and what is on its way -/
structure Pi (w : World) (P O : Nat) (v : Value) (l : List Int) (e0 e1 : Int) : Prop where
  p0 : w.cell? ⟨P, 0, none⟩ = some (.pointer (some ⟨O, 0, none⟩))
  pl : P < w.heap.size
  o0 : w.cell? ⟨O, 0, none⟩ = some (.int .i64 e0)
  o1 : w.cell? ⟨O, 1, none⟩ = some (.int .i64 e1)
  o2 : w.cell? ⟨O, 2, none⟩ = some v
  of : ∀ j, w.frozen? ⟨O, j, none⟩ = false
  ol : O < w.heap.size
  ob : OB 0 w v l
  ne : P ≠ O
  n1 : v.ownBlock ≠ some P
  n2 : v.ownBlock ≠ some O
section
variable {w w' : World} {P O : Nat} {v : Value} {l : List Int} {e0 e1 : Int}
theorem Pi.upd {S : Nat → Prop} (h : Pi w P O v l e0 e1) (hu : Upd S w w') (h1 : ¬ S P) (h2 : ¬ S O) (h3 : ∀ g, v.ownBlock = some g → ¬ S g) : Pi w' P O v l e0 e1 :=
  ⟨(hu.cell h.pl h1).trans h.p0, Nat.lt_of_lt_of_le h.pl hu.size, (hu.cell h.ol h2).trans h.o0, (hu.cell h.ol h2).trans h.o1, (hu.cell h.ol h2).trans h.o2, fun j => (hu.frozen h.ol h2).trans (h.of j), Nat.lt_of_lt_of_le h.ol hu.size, h.ob.upd hu h3, h.ne, h.n1, h.n2⟩
theorem Pi.keep (h : Pi w P O v l e0 e1) (hb : Below w.heap.size w w') : Pi w' P O v l e0 e1 :=
  h.upd (S := fun _ => False) (Upd.below hb) (fun e => e) (fun e => e) (fun _ _ e => e)
set_option maxRecDepth 100000 in
set_option maxHeartbeats 400000 in
theorem index0_is (h : w.cell? ⟨P, 0, none⟩ = some (.pointer none)) : Calls Tryz.prog 223 #[.slice (some ⟨P, 0, none⟩) 16 16, .pointer none] w fun e w' => e = .returned (.int .i64 0) ∧ w = w' := by
  go_enter Tryz.func223, Tryz.ntmps223
  go_wp2_with fail
  refine wp_loop_rounds 1 ?_
  rw [rounds_succ]
  go_wp2_with fail
  go_ret
  exact ⟨rfl, rfl⟩
set_option maxRecDepth 100000 in
set_option maxHeartbeats 400000 in
theorem pmake_is (h : Row w P 151 pipA) : Calls Tryz.prog 151 #[.pointer (some ⟨P, 0, none⟩)] w fun e w' => e = .returned (.tuple #[.int .i64 1, .int .i64 0]) ∧ Pi w' P w.heap.size (.slice none 0 0) [] 1 1 ∧ Upd (fun k => k = P) w w' := by
  have c0 : w.cell? ⟨P, 0, none⟩ = some (.pointer none) := by rw [h.cell]; rfl
  have HI := Lib.hid (index0_is c0)
  have hr := row_new w 336 #[.int .i64 1, .int .i64 1, .slice none 0 0]
  have hp := h.alloc (.cells #[.int .i64 1, .int .i64 1, .slice none 0 0] 336)
  have d0 : (w.alloc (.cells #[.int .i64 1, .int .i64 1, .slice none 0 0] 336)).cell? ⟨P, 0, none⟩ = some (.pointer none) := by rw [hp.cell]; rfl
  have f0 := hp.fz 0
  have ff0 := h.fz 0
  have hlt := h.lt
  have u : Upd (fun k => k = P) (w.alloc (.cells #[.int .i64 1, .int .i64 1, .slice none 0 0] 336)) ((w.alloc (.cells #[.int .i64 1, .int .i64 1, .slice none 0 0] 336)).setCell ⟨P, 0, none⟩ (.pointer (some ⟨w.heap.size, 0, none⟩))) := Upd.set _ _ rfl
  have hne : P ≠ w.heap.size := by omega
  have hr2 := hr.upd u (fun e => hne e.symm)
  have HP : Hid (Pi ((w.alloc (.cells #[.int .i64 1, .int .i64 1, .slice none 0 0] 336)).setCell ⟨P, 0, none⟩ (.pointer (some ⟨w.heap.size, 0, none⟩))) P w.heap.size (.slice none 0 0) [] 1 1) := Lib.hid ⟨set_same d0, Nat.lt_of_lt_of_le hp.lt u.size, by rw [hr2.cell]; rfl, by rw [hr2.cell]; rfl, by rw [hr2.cell]; rfl, hr2.fz, hr2.lt, OB.nil _ _, hne, by simp [Value.ownBlock], by simp [Value.ownBlock]⟩
  have HU := Lib.hid ((Upd.alloc (S := fun k => k = P) w (.cells #[.int .i64 1, .int .i64 1, .slice none 0 0] 336)).trans u)
  clear hr hp u hr2 h
  have ec : (w.alloc (.cells #[.int .i64 1, .int .i64 1, .slice none 0 0] 336)).setCell ⟨P, 0, none⟩ (.pointer (some ⟨w.heap.size, 0, none⟩)) = (w.setCell ⟨P, 0, none⟩ (.pointer (some ⟨w.heap.size, 0, none⟩))).alloc (.cells #[.int .i64 1, .int .i64 1, .slice none 0 0] 336) := World.setCell_alloc_past _ _ _ _ hlt
  rw [ec] at HP HU
  clear ec
  go_enter Tryz.func151, Tryz.ntmps151
  go_wp2_with (go_at_call 223; refine HI.out.mono ?_; rintro e1 w1 ⟨rfl, rfl⟩)
  go_ret2
  exact ⟨rfl, HP.out, HU.out⟩
set_option maxRecDepth 100000 in
set_option maxHeartbeats 400000 in
theorem pfind_is (h : Pi w P O v l e0 e1) : Calls Tryz.prog 283 #[.pointer (some ⟨P, 0, none⟩), .int .i64 1] w fun e w' => e = .returned (.pointer (some ⟨O, 0, none⟩)) ∧ w = w' := by
  have p0 := h.p0
  clear h
  go_enter Tryz.func283, Tryz.ntmps283
  go_wp2_with fail
  go_ret
  exact ⟨rfl, rfl⟩
set_option maxRecDepth 100000 in
set_option maxHeartbeats 400000 in
theorem pend0_is (h : Pi w P O v l 1 e1) : Calls Tryz.prog 215 #[.pointer (some ⟨P, 0, none⟩), .int .i64 1, .int .i64 0] w fun e w' => e = .returned (.tuple #[.pointer (some ⟨O, 0, none⟩), .int .i64 0]) ∧ w = w' := by
  have HF := Lib.hid (pfind_is h)
  have o0 := h.o0
  clear h
  go_enter Tryz.func215, Tryz.ntmps215
  go_wp2_with (go_at_call 283; refine HF.out.mono ?_; rintro e1 w1 ⟨rfl, rfl⟩)
  go_ret2
  exact ⟨rfl, rfl⟩
set_option maxRecDepth 100000 in
set_option maxHeartbeats 400000 in
theorem pend1_is (h : Pi w P O v l e0 1) : Calls Tryz.prog 215 #[.pointer (some ⟨P, 0, none⟩), .int .i64 1, .int .i64 1] w fun e w' => e = .returned (.tuple #[.pointer (some ⟨O, 0, none⟩), .int .i64 0]) ∧ w = w' := by
  have HF := Lib.hid (pfind_is h)
  have o1 := h.o1
  clear h
  go_enter Tryz.func215, Tryz.ntmps215
  go_wp2_with (go_at_call 283; refine HF.out.mono ?_; rintro e1 w1 ⟨rfl, rfl⟩)
  go_ret2
  exact ⟨rfl, rfl⟩
end
end Go.Proofs.YthdpeecahpedeaaGreatDoor
namespace Go.Proofs.YthdpeecahpedeaaGreatDoor
open Go.RowKit
set_option linter.unusedVariables false
set_option linter.unusedSimpArgs false
section
variable {w w' : World} {P O : Nat} {v dv : Value} {l dl : List Int} {e0 e1 : Int}
/-- v' is v's own block, or a new one -/
def New (w : World) (v v' : Value) : Prop := v'.ownBlock = v.ownBlock ∨ ∃ g, w.heap.size ≤ g ∧ v'.ownBlock = some g
def Wset (O : Nat) (v : Value) (k : Nat) : Prop := k = O ∨ v.ownBlock = some k
/-- the slice of a source's first n -/
def SrcOk (w : World) (dv : Value) (dl : List Int) : Prop := ∃ a c, dv = .slice a dl.length c ∧ dl.length ≤ c ∧ (a = none → c = 0) ∧ ∀ ad, a = some ad → ∀ j u, (dl.map u8V)[j]? = some u → w.cell? (ad.add j) = some u
theorem Pi.app (h : Pi w P O v l e0 e1) {a : Option Addr} {c : Nat} {news : List Int} (h0 : a = none → news = [] ∧ c = 0) (hn : ∀ ad, a = some ad → ∀ j u, (news.map u8V)[j]? = some u → w.cell? (ad.add j) = some u) (h64 : l.length + news.length ≤ 1000000) :
    ∃ p c' w4, (Builtin.append_ #[28, 28] 28 #[v, .slice a news.length c]).run Tryz.prog w = .ok (.slice p (l.length + news.length) c') w4 ∧ w4.cell? ⟨O, 2, none⟩ = some v ∧ w4.frozen? ⟨O, 2, none⟩ = false ∧
      Hid (Pi (w4.setCell ⟨O, 2, none⟩ (.slice p (l.length + news.length) c')) P O (.slice p (l.length + news.length) c') (l ++ news) e0 e1) ∧ Hid (Upd (Wset O v) w (w4.setCell ⟨O, 2, none⟩ (.slice p (l.length + news.length) c'))) ∧ Hid (New w v (.slice p (l.length + news.length) c')) := by
  have core : ∃ v' w4, (Builtin.append_ #[28, 28] 28 #[v, .slice a news.length c]).run Tryz.prog w = .ok v' w4 ∧ OB 0 w4 v' (l ++ news) ∧ w.grownBy w4 v.ownBlock ∧ New w v v' := by
    obtain ⟨i0, hi, hz0, hz1, hz2⟩ := info_parts info5
    cases a with
    | none =>
      obtain ⟨rfl, rfl⟩ := h0 rfl
      exact ⟨v, w, run_append_owned_none (P := Tryz.prog) w 0 28 28 5 i0 1 Tryz.underlying28 hi v l.length (l.map u8V) h.ob, by rw [List.append_nil]; exact h.ob, World.grownBy.refl _ _, .inl rfl⟩
    | some ad =>
      obtain ⟨v', w4, hr, ho, hg, hf⟩ := run_append_fresh (P := Tryz.prog) w 0 28 28 5 i0 (.int .u8 0) 1 1 Tryz.underlying28 hi hz0 hz1 hz2 rfl (by decide) v l.length (l.map u8V) h.ob ad news.length c (news.map u8V) (by simp) (hn ad rfl) (u8V_one news) (by unfold maxLen; omega) (by omega) (Nat.zero_le _)
      refine ⟨v', w4, hr, ?_, hg, ?_⟩
      · unfold OB
        rw [List.length_append, List.map_append]
        exact ho
      · rcases hf with e | ⟨g, hg, e⟩
        · exact .inl e
        · exact .inr ⟨g, hg, e⟩
  obtain ⟨v', w4, hr, ho, hg, hf⟩ := core
  obtain ⟨p, c', hv'⟩ := ho.form
  rw [List.length_append] at hv'
  subst hv'
  have nP : some P ≠ v.ownBlock := fun e => h.n1 e.symm
  have nO : some O ≠ v.ownBlock := fun e => h.n2 e.symm
  have u0 : Upd (fun k => k = O) w4 (w4.setCell ⟨O, 2, none⟩ (.slice p (l.length + news.length) c')) := Upd.set _ _ rfl
  have nD : ∀ {b}, b < w.heap.size → v.ownBlock ≠ some b → (Value.slice p (l.length + news.length) c').ownBlock ≠ some b := fun {b} hb hn => by
    rcases hf with e | ⟨g, hg, e⟩
    · rw [e]; exact hn
    · rw [e]; intro e2; injection e2 with e2; omega
  have kO : ∀ {o}, w4.cell? ⟨O, o, none⟩ = w.cell? ⟨O, o, none⟩ := grown_cell hg h.ol nO
  have zO : ∀ j, w4.frozen? ⟨O, j, none⟩ = false := fun j => (grown_frozen hg h.ol nO).trans (h.of j)
  refine ⟨p, c', w4, hr, kO.trans h.o2, zO 2, Lib.hid ⟨set_blk h.ne ((grown_cell hg h.pl nP).trans h.p0), Nat.lt_of_lt_of_le h.pl (Nat.le_trans hg.size u0.size), set_off (by decide) (kO.trans h.o0), set_off (by decide) (kO.trans h.o1), set_same (kO.trans h.o2), fun j => by rw [World.frozen?_setCell]; exact zO j, Nat.lt_of_lt_of_le h.ol (Nat.le_trans hg.size u0.size), ho.upd u0 (fun g hg' e => nD h.ol h.n2 (by rw [hg', e])), h.ne, nD h.pl h.n1, nD h.ol h.n2⟩, Lib.hid ?_, Lib.hid hf⟩
  exact (Upd.grown0 hg (fun b hb _ => .inr hb)).trans (Upd.set _ _ (.inl rfl))
set_option maxRecDepth 100000 in
set_option maxHeartbeats 1000000 in
/-- no room: the writer waits -/
theorem pwrite_wait (h : Pi w P O v l 1 1) (hl : l.length = 64) {a : Option Addr} {n c : Nat} (hn : 0 < n) (hn2 : n ≤ 256) : Calls Tryz.prog 155 #[.pointer (some ⟨P, 0, none⟩), .int .i64 1, .slice a n c] w fun e w' => e = .returned (.tuple #[.int .i64 0, .int .i64 9]) ∧ w = w' := by
  have HE := Lib.hid (pend1_is h)
  have o0 := h.o0
  have o2 := h.o2
  obtain ⟨p, c', rfl⟩ := h.ob.form
  rw [hl] at o2
  have i0 : ¬ (256 : Int) < n := by omega
  have i1 : (0 : Int) < n := by omega
  have i2 : ¬ (n : Int) = 0 := by omega
  clear h hl
  go_enter Tryz.func155, Tryz.ntmps155
  go_wp2_with (go_at_call 215; refine HE.out.mono ?_; rintro e1 w1 ⟨rfl, rfl⟩)
  go_ret2
  exact ⟨rfl, rfl⟩
def WrPost (P O : Nat) (v : Value) (l news : List Int) (w : World) (e : Ending) (w' : World) : Prop :=
  e = .returned (.tuple #[.int .i64 news.length, .int .i64 0]) ∧ ∃ v', Pi w' P O v' (l ++ news) 1 1 ∧ Upd (Wset O v) w w' ∧ New w v v'
set_option maxRecDepth 100000 in
set_option maxHeartbeats 1000000 in
/-- as many as there is room for -/
theorem pwrite_is (h : Pi w P O v l 1 1) (hl : l.length ≤ 64) {a : Option Addr} {n m c : Nat} (hn2 : n ≤ 256) (hnc : n ≤ c) (hw : ¬ 0 < n ∨ l.length ≠ 64) (hm : m = min n (64 - l.length)) {news : List Int} (hnews : news.length = m) (h0 : a = none → news = [] ∧ c = 0) (hcs : ∀ ad, a = some ad → ∀ j u, (news.map u8V)[j]? = some u → w.cell? (ad.add j) = some u) :
    Calls Tryz.prog 155 #[.pointer (some ⟨P, 0, none⟩), .int .i64 1, .slice a n c] w (WrPost P O v l news w) := by
  have HE := Lib.hid (pend1_is h)
  have o0 := h.o0
  have o2 := h.o2
  obtain ⟨p, c', w4, hap, c4, z4, HP4, HU4, HN4⟩ := (h.keep (Below.refl _ _).drew).app (a := a) (c := c) (news := news) h0 hcs (by omega)
  obtain ⟨pv, cv, hv⟩ := h.ob.form
  rw [hnews] at hap HP4 HU4 HN4
  unfold WrPost
  rw [hnews]
  have i0 : ¬ (256 : Int) < n := by omega
  have i1 : (0 : Int) ≤ (m : Int) := by omega
  have i2 : (m : Int) ≤ n := by omega
  have im : (min (n : Int) (64 - (l.length : Int))) = (m : Int) := by omega
  have HV := Lib.hid hv
  clear h hnews h0 hcs
  rw [hv] at o2 hap c4
  obtain ⟨k, hk⟩ : ∃ k, k = l.length := ⟨_, rfl⟩
  rw [← hk] at o2 hap im hw HP4 HU4 HN4 c4 hl hm
  clear hk
  rcases hw with hw | hw
  all_goals
    go_enter Tryz.func155, Tryz.ntmps155
    go_upto_region 11 with (go_at_call 215; refine HE.out.mono ?_; rintro e1 w1 ⟨rfl, rfl⟩)
  all_goals
    (first | (have e : (if (64 : Int) - (k : Int) < (n : Int) then (64 : Int) - (k : Int) else (n : Int)) = (m : Int) := by split <;> omega); simp only [e] | obtain rfl : m = n := by omega)
    have hmc : (m : Int) ≤ c := by omega
    clear hm im hl i0 i1 i2 hnc hn2 hw HE
    go_region_law (refine step_append_run rfl (.tmp 56) (.tmp 59) 28 rfl hap ?_)
  all_goals
    have HU5 := Lib.hid ((Upd.drew (S := Wset O v) w).trans HU4.out)
    have HN5 : Hid (New w v (Value.slice p (k + m) c')) := Lib.hid HN4.out
    clear hap c4 z4 HU4 HN4
    generalize w4.setCell ⟨O, 2, none⟩ (.slice p (k + m) c') = w5 at *
    go_wp2_with fail
    go_ret2
    exact ⟨rfl, _, HP4.out, HU5.out, HN5.out⟩
end
end Go.Proofs.YthdpeecahpedeaaGreatDoor
