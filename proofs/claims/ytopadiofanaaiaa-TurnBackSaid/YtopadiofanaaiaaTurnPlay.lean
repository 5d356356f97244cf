/- The walk of turn.Play. -/
import Derived.Test.YtopadiofanaaiaaTurnUint
import Derived.StillTailTactics
import Derived.Laws.MakeOwn
import Derived.Laws.OwnMore
namespace Go.Proofs.Ytopadiofanaaiaa.TurnLaw
open Go.RowKit
set_option linter.unusedVariables false

/-- a step: kind, cell, by -/
abbrev D := Nat × Nat × Nat
def dAt (p : List D) (j : Nat) : D := p.getD j (0, 0, 0)
def pAt (ps : List (List D)) (i : Nat) : List D := ps.getD i []
/-- a program lies in block b -/
def ProgAt (w : World) (b : Nat) (p : List D) : Prop := b < w.heap.size ∧ ∀ j, j < p.length → w.cell? ⟨b, j * 3, none⟩ = some (.int .i64 ((dAt p j).1 : Nat)) ∧ w.cell? ⟨b, j * 3 + 1, none⟩ = some (.int .i64 ((dAt p j).2.1 : Nat)) ∧ w.cell? ⟨b, j * 3 + 2, none⟩ = some (.int .i64 ((dAt p j).2.2 : Nat))
def ProgsAt (w : World) (b : Nat) (ps : List (List D)) : Prop := b < w.heap.size ∧ ∀ i, i < ps.length → ∃ pa pc, w.cell? ⟨b, i, none⟩ = some (.slice pa (pAt ps i).length pc) ∧ (pAt ps i = [] ∨ ∃ b', pa = some ⟨b', 0, none⟩ ∧ ProgAt w b' (pAt ps i))
def Progs (w : World) (v : Value) (ps : List (List D)) : Prop := ∃ a cap, v = .slice a ps.length cap ∧ (ps = [] ∨ ∃ b, a = some ⟨b, 0, none⟩ ∧ ProgsAt w b ps)
theorem ProgAt.keep {w w' : World} {b B : Nat} {p : List D} (h : ProgAt w b p) (hb : Below B w w') (hB : w.heap.size ≤ B) : ProgAt w' b p :=
  ⟨Nat.lt_of_lt_of_le h.1 hb.size, fun j hj => ⟨(hb.cell (p := ⟨b, _, none⟩) (Nat.lt_of_lt_of_le h.1 hB)).trans (h.2 j hj).1, (hb.cell (p := ⟨b, _, none⟩) (Nat.lt_of_lt_of_le h.1 hB)).trans (h.2 j hj).2.1, (hb.cell (p := ⟨b, _, none⟩) (Nat.lt_of_lt_of_le h.1 hB)).trans (h.2 j hj).2.2⟩⟩
theorem ProgsAt.keep {w w' : World} {b B : Nat} {ps : List (List D)} (h : ProgsAt w b ps) (hb : Below B w w') (hB : w.heap.size ≤ B) : ProgsAt w' b ps := by
  refine ⟨Nat.lt_of_lt_of_le h.1 hb.size, fun i hi => ?_⟩
  obtain ⟨pa, pc, hc, hp⟩ := h.2 i hi
  refine ⟨pa, pc, (hb.cell (p := ⟨b, _, none⟩) (Nat.lt_of_lt_of_le h.1 hB)).trans hc, ?_⟩
  rcases hp with hp | ⟨b', hb', hp⟩
  · exact .inl hp
  · exact .inr ⟨b', hb', hp.keep hb hB⟩
theorem Progs.keep {w w' : World} {v : Value} {B : Nat} {ps : List (List D)} (h : Progs w v ps) (hb : Below B w w') (hB : w.heap.size ≤ B) : Progs w' v ps := by
  obtain ⟨a, cap, hv, h⟩ := h
  refine ⟨a, cap, hv, ?_⟩
  rcases h with h | ⟨b, ha, h⟩
  · exact .inl h
  · exact .inr ⟨b, ha, h.keep hb hB⟩
def okD (n : Nat) (d : D) : Prop := 1 ≤ d.1 ∧ d.1 ≤ 6 ∧ d.2.1 < n ∧ d.2.2 ≤ 1048576
def okPs (n : Nat) (ps : List (List D)) : Prop := ∀ i, i < ps.length → ∀ j, j < (pAt ps i).length → okD n (dAt (pAt ps i) j)

def playR (ps : List (List D)) : List Nat → List Nat → List Nat → List Nat → Option (List Nat × List Nat)
  | [], cs, hs, _ => some (cs, hs)
  | i :: t, cs, hs, ats => if i < ps.length ∧ ats.getD i 0 < (pAt ps i).length then
      playR ps t (stepC cs (hs.getD i 0) (dAt (pAt ps i) (ats.getD i 0)).1 (dAt (pAt ps i) (ats.getD i 0)).2.1 (dAt (pAt ps i) (ats.getD i 0)).2.2)
        (hs.set i (stepH cs (hs.getD i 0) (dAt (pAt ps i) (ats.getD i 0)).1 (dAt (pAt ps i) (ats.getD i 0)).2.1 (dAt (pAt ps i) (ats.getD i 0)).2.2)) (ats.set i (ats.getD i 0 + 1)) else none

theorem make33 (w : World) (n : Nat) (h : n ≤ 4) : (Instr.makeSlice 31 (.int .i64 (n : Int)) (.int .i64 (n : Int))).run Try.prog w = .ok (.slice (some ⟨w.heap.size, 0, none⟩) n n) (w.alloc (.cells (madeCells #[.int .u32 0] n) 33)) := by
  obtain ⟨i, hi, hz, hs, hb⟩ := info_parts info33
  have := run_makeSlice (P := Try.prog) w 31 33 i (.int .u32 0) Try.underlying31 hi hz .i64 .i64 (n : Int) (n : Int) (by omega) (Int.le_refl _) (by rw [hs]; simp; omega) (by rw [hb]; simp; omega) (by omega)
  simpa [hs, Value.cells] using this
theorem make3 (w : World) (n : Nat) (h : n ≤ 4) : (Instr.makeSlice 22 (.int .i64 (n : Int)) (.int .i64 (n : Int))).run Try.prog w = .ok (.slice (some ⟨w.heap.size, 0, none⟩) n n) (w.alloc (.cells (madeCells #[.int .i64 0] n) 3)) := by
  obtain ⟨i, hi, hz, hs, hb⟩ := info_parts info3
  have := run_makeSlice (P := Try.prog) w 22 3 i (.int .i64 0) Try.underlying22 hi hz .i64 .i64 (n : Int) (n : Int) (by omega) (Int.le_refl _) (by rw [hs]; simp; omega) (by rw [hb]; simp; omega) (by omega)
  simpa [hs, Value.cells] using this
theorem made33_row {B : Nat} (w : World) (n : Nat) (h : n ≤ 4) (hB : B ≤ w.heap.size) : U32Row (w.alloc (.cells (madeCells #[.int .u32 0] n) 33)) B (.slice (some ⟨w.heap.size, 0, none⟩) n n) (List.replicate n 0) := by
  have := World.ownsRow_lit (base := B) (e := 33) (size := 1) w (madeCells #[.int .u32 0] n) n hB (by unfold maxLen; omega) (by rw [size_madeCells]; omega)
  rw [toList_madeCells_one] at this
  unfold U32Row
  rw [List.length_replicate, List.map_replicate]
  exact this
theorem made3_row {B : Nat} (w : World) (n : Nat) (h : n ≤ 4) (hB : B ≤ w.heap.size) : NatRow (w.alloc (.cells (madeCells #[.int .i64 0] n) 3)) B (.slice (some ⟨w.heap.size, 0, none⟩) n n) (List.replicate n 0) := by
  have := World.ownsRow_lit (base := B) (e := 3) (size := 1) w (madeCells #[.int .i64 0] n) n hB (by unfold maxLen; omega) (by rw [size_madeCells]; omega)
  rw [toList_madeCells_one] at this
  unfold NatRow
  rw [List.length_replicate, List.map_replicate]
  exact this
theorem stepC_lt {cs : List Nat} {h k c b : Nat} (hc : ∀ x ∈ cs, x < 4294967296) (hh : h < 4294967296) : ∀ x ∈ stepC cs h k c b, x < 4294967296 := by
  have hset : ∀ y, y < 4294967296 → ∀ x ∈ cs.set c y, x < 4294967296 := by
    intro y hy x hx
    rcases List.mem_or_eq_of_mem_set hx with h | rfl
    · exact hc x h
    · exact hy
  unfold stepC
  split
  · exact hset _ hh
  · split
    · exact hset _ (Nat.mod_lt _ (by decide))
    · split
      · split
        · exact hset _ (Nat.mod_lt _ (by decide))
        · exact hc
      · exact hc
theorem stepH_lt {cs : List Nat} {h k c b : Nat} (hc : ∀ x ∈ cs, x < 4294967296) (hh : h < 4294967296) (hl : c < cs.length) : stepH cs h k c b < 4294967296 := by
  unfold stepH
  split
  · exact hh
  · split
    · exact Nat.mod_lt _ (by decide)
    · exact hc _ (by simp [List.getD, hl])
theorem drop_getD {l : List Nat} {i : Nat} (h : i < l.length) : l.drop i = l.getD i 0 :: l.drop (i + 1) := by
  rw [List.drop_eq_getElem_cons h]; simp [List.getD, h]
section
variable {B : Nat} {w0 w : World} {vc vh va : Value} {cs hs ats : List Nat}
theorem PS.cellA' {g m cap : Nat} (p : PS B w0 w vc vh (.slice (some ⟨g, 0, none⟩) m cap) cs hs ats) (hm : ats.length = m) {i : Nat} (h : i < m) : w.cell? ⟨g, i, none⟩ = some (.int .i64 (ats.getD i 0 : Nat)) := by
  subst hm; exact p.cellA h
theorem PS.setA' {g m cap : Nat} (p : PS B w0 w vc vh (.slice (some ⟨g, 0, none⟩) m cap) cs hs ats) (hm : ats.length = m) (i x : Nat) : PS B w0 (w.setCell ⟨g, i, none⟩ (.int .i64 x)) vc vh (.slice (some ⟨g, 0, none⟩) m cap) cs hs (ats.set i x) := by
  subst hm; exact p.setA i x
theorem PS.frozenA {g m cap : Nat} (p : PS B w0 w vc vh (.slice (some ⟨g, 0, none⟩) m cap) cs hs ats) (hm : ats.length = m) (i : Nat) : w.frozen? ⟨g, i, none⟩ = false := by
  subst hm; exact p.a.frozenAt i
theorem PS.drewN (p : PS B w0 w vc vh va cs hs ats) (n : Nat) : PS B w0 (w.drewN n) vc vh va cs hs ats :=
  ⟨below_drewN p.bel n, p.size, p.c, p.h, p.a, p.ch, p.ca, p.ha⟩
end
theorem step_is {B : Nat} {w0 w : World} {va : Value} {cs hs ats : List Nat} {gc gh cc ch c i b n m : Nat} (p : PS B w0 w (.slice (some ⟨gc, 0, none⟩) n cc) (.slice (some ⟨gh, 0, none⟩) m ch) va cs hs ats) (hn : cs.length = n) (hm : hs.length = m) (hc : c < n) (hi : i < m) (hn4 : n ≤ 4) (hb : b ≤ 1048576)
    (hcv : ∀ x ∈ cs, x < 4294967296) (hhv : ∀ x ∈ hs, x < 4294967296) {k : Nat} (hk1 : 1 ≤ k) (hk6 : k ≤ 6) :
    Calls Try.prog 35 #[.slice (some ⟨gc, 0, none⟩) n cc, .pointer (some ⟨gh, i, none⟩), .agg #[.int .i64 k, .int .i64 c, .int .i64 b]] w fun e w' => e = .returned (.tuple #[]) ∧ PS B w0 w' (.slice (some ⟨gc, 0, none⟩) n cc) (.slice (some ⟨gh, 0, none⟩) m ch) va (stepC cs (hs.getD i 0) k c b) (hs.set i (stepH cs (hs.getD i 0) k c b)) ats := by
  subst hn
  subst hm
  exact step1_is p hc hi hn4 hb hcv hhv (by omega)
theorem playR_some {ps : List (List D)} {i : Nat} {t cs hs ats : List Nat} {r : List Nat × List Nat} (h : playR ps (i :: t) cs hs ats = some r) : i < ps.length ∧ ats.getD i 0 < (pAt ps i).length ∧ playR ps t (stepC cs (hs.getD i 0) (dAt (pAt ps i) (ats.getD i 0)).1 (dAt (pAt ps i) (ats.getD i 0)).2.1 (dAt (pAt ps i) (ats.getD i 0)).2.2)
        (hs.set i (stepH cs (hs.getD i 0) (dAt (pAt ps i) (ats.getD i 0)).1 (dAt (pAt ps i) (ats.getD i 0)).2.1 (dAt (pAt ps i) (ats.getD i 0)).2.2)) (ats.set i (ats.getD i 0 + 1)) = some r := by
  rw [playR] at h
  split at h
  · rename_i hc
    exact ⟨hc.1, hc.2, h⟩
  · cases h
structure PI (ps : List (List D)) (n m : Nat) (t cs hs ats : List Nat) (r : List Nat × List Nat) : Prop where
  nc : cs.length = n
  nh : hs.length = m
  na : ats.length = m
  lc : ∀ x ∈ cs, x < 4294967296
  lh : ∀ x ∈ hs, x < 4294967296
  run : playR ps t cs hs ats = some r
def PlayPost (out hands : List Nat) (w : World) (e : Ending) (w' : World) : Prop := ∃ v1 v2, e = .returned (.tuple #[v1, v2, .int .i64 0]) ∧ U32S w' v1 out ∧ U32S w' v2 hands ∧ Below w.heap.size w w'

set_option maxRecDepth 100000 in
set_option maxHeartbeats 4000000 in
theorem play_is {w : World} {vc vp vo : Value} {cs order out hands : List Nat} {ps : List (List D)} (hcs : U32S w vc cs) (hc4 : cs.length ≤ 4) (hc0 : cs ≠ []) (hcv : ∀ x ∈ cs, x < 4294967296)
    (hps : Progs w vp ps) (hp4 : ps.length ≤ 4) (hp12 : ∀ i, i < ps.length → (pAt ps i).length ≤ 12) (hok : okPs cs.length ps) (ho : NatS w vo order) (ho12 : order.length ≤ 12) (hplay : playR ps order cs (List.replicate ps.length 0) (List.replicate ps.length 0) = some (out, hands)) :
    Calls Try.prog 20 #[vc, vp, vo] w (PlayPost out hands w) := by
  have HCL := Lib.hid (fun w' (hb : Below w.heap.size w w') => cloneU_is (Nat.le_trans hc4 (by decide)) (hcs.keep hb))
  obtain ⟨ac, capc, rfl, _⟩ := hcs
  obtain ⟨ap, capp, rfl, hps⟩ := hps
  obtain ⟨ao, capo, rfl, _, _, ho⟩ := ho
  obtain ⟨n, hn⟩ : ∃ n, n = cs.length := ⟨_, rfl⟩
  obtain ⟨m, hm⟩ : ∃ m, m = ps.length := ⟨_, rfl⟩
  obtain ⟨q, hq⟩ : ∃ q, q = order.length := ⟨_, rfl⟩
  rw [← hn] at hc4 hok HCL ⊢
  rw [← hm] at hp4 hp12 hplay ⊢
  rw [← hq] at ho12 ⊢
  have HN := Lib.hid hn
  have HM := Lib.hid hm
  have HQ := Lib.hid hq
  have HOK := Lib.hid hok
  have HP12 := Lib.hid hp12
  have HPL := Lib.hid hplay
  have HPS := Lib.hid hps
  have HO := Lib.hid ho
  have HCV := Lib.hid hcv
  have HC0 := Lib.hid hc0
  have mk33 := fun w => make33 w m hp4
  have mk3 := fun w => make3 w m hp4
  clear hn hm hq hok hplay hps ho hcv hc0 hp12
  have hni : (n : Int) ≤ 4 := by omega
  have hmi : (m : Int) ≤ 4 := by omega
  go_enter Try.func20, Try.ntmps20
  go_wp2
  go_loopw [28] (fun iv wr => ∃ i, i ≤ m ∧ iv = .int .i64 i ∧ Hid (Below w.heap.size w wr)) (fun iv _ => m - (intOf iv).toNat)
  case atStart => exact ⟨0, Nat.zero_le _, rfl, Below.refl _ _⟩
  case round =>
    obtain ⟨i, hi, rfl, HBL⟩ := hrel
    by_cases him : i < m
    · rcases HPS.out with h0 | ⟨b, rfl, hP⟩
      · rw [HM.out, h0] at him; simp at him
      obtain ⟨pa, pc, hpc, hpp⟩ := hP.2 i (by rw [← HM.out]; exact him)
      have hcell := (HBL.out.cell (p := ⟨b, i, none⟩) hP.1).trans hpc
      obtain ⟨k, hk⟩ : ∃ k, k = (pAt ps i).length := ⟨_, rfl⟩
      rw [← hk] at hcell
      have HK := Lib.hid hk
      have HPP := Lib.hid hpp
      have hk12 : k ≤ 12 := by rw [hk]; exact HP12.out i him
      have hki : (k : Int) ≤ 12 := by omega
      clear hpc hpp hP hk
      go_wp2_with fail
      go_loopw [34] (fun jv wr2 => ∃ j, j ≤ k ∧ jv = .int .i64 j ∧ Hid (Below w.heap.size w wr2)) (fun jv _ => k - (intOf jv).toNat)
      case atStart => exact ⟨0, Nat.zero_le _, rfl, HBL.out⟩
      case round =>
        clear hcell
        obtain ⟨j, hj, rfl, HBJ⟩ := hrel
        by_cases hjk : j < k
        · have hjl : j < (pAt ps i).length := by rw [← HK.out]; exact hjk
          rcases HPP.out with h0 | ⟨b', rfl, hPA⟩
          · rw [h0] at hjl; simp at hjl
          obtain ⟨c0, c1, c2⟩ := hPA.2 j hjl
          have e0 := (HBJ.out.cell (p := ⟨b', j * 3, none⟩) hPA.1).trans c0
          have e1 := (HBJ.out.cell (p := ⟨b', j * 3 + 1, none⟩) hPA.1).trans c1
          have e2 := (HBJ.out.cell (p := ⟨b', j * 3 + 2, none⟩) hPA.1).trans c2
          obtain ⟨d1, d2, d3, _⟩ := HOK.out i (by rw [← HM.out]; exact him) j hjl
          obtain ⟨x0, hx0⟩ : ∃ x, x = (dAt (pAt ps i) j).1 := ⟨_, rfl⟩
          obtain ⟨x1, hx1⟩ : ∃ x, x = (dAt (pAt ps i) j).2.1 := ⟨_, rfl⟩
          obtain ⟨x2, hx2⟩ : ∃ x, x = (dAt (pAt ps i) j).2.2 := ⟨_, rfl⟩
          rw [← hx0] at e0 d1 d2
          rw [← hx1] at e1 d3
          rw [← hx2] at e2
          have f1 : (1 : Int) ≤ x0 := by omega
          have f2 : (x0 : Int) ≤ 6 := by omega
          have f3 : (x1 : Int) < n := by omega
          have HB2 := Lib.hid (HBJ.out.alloc HBJ.out.size (.cells #[.int .i64 x0, .int .i64 x1, .int .i64 x2] 38))
          clear c0 c1 c2 hx0 hx1 hx2 hPA d1 d2 d3
          go_wp2
          go_roundw
          case rel => exact ⟨j + 1, by omega, by go_num, HB2.out⟩
          case measure => simp [intOf]; omega
        · obtain rfl : j = k := by omega
          go_wp2
          go_roundw
          case rel => exact ⟨i + 1, by omega, by go_num, HBJ.out⟩
          case measure => simp [intOf]; omega
    · obtain rfl : i = m := by omega
      obtain ⟨wo, rfl⟩ : ∃ wo : World, wo = wr := ⟨_, rfl⟩
      go_wp2_with fail
      refine (HCL.out _ HBL.out).mono ?_
      rintro e w2 ⟨v13, rfl, hrow, hb2⟩
      obtain ⟨B, hB⟩ : ∃ B, B = wo.heap.size := ⟨_, rfl⟩
      have HPW := Lib.hid (fun (wx : World) (hb : Below wo.heap.size wo wx) => (HBL.out.trans (hb.mono HBL.out.size)))
      have HBW := Lib.hid hB
      rw [← hB] at hrow hb2
      have hsz2 : B ≤ w2.heap.size := by rw [hB]; exact hb2.size
      rcases hrow.2 with ⟨_, hn0⟩ | ⟨gc, capc', cur, rfl, _⟩
      · exact absurd (List.eq_nil_of_length_eq_zero hn0) HC0.out
      have hrh := made33_row w2 i hp4 hsz2
      have hsz3 : B ≤ (w2.alloc (.cells (madeCells #[.int .u32 0] i) 33)).heap.size := by simp; omega
      have hra := made3_row (w2.alloc (.cells (madeCells #[.int .u32 0] i) 33)) i hp4 hsz3
      have hgc := (hrow.lt gc rfl).2
      have HPS0 : Hid (PS B wo ((w2.alloc (.cells (madeCells #[.int .u32 0] i) 33)).alloc (.cells (madeCells #[.int .i64 0] i) 3)) (.slice (some ⟨gc, 0, none⟩) cs.length capc') (.slice (some ⟨w2.heap.size, 0, none⟩) i i) (.slice (some ⟨w2.heap.size + 1, 0, none⟩) i i) cs (List.replicate i 0) (List.replicate i 0)) := by
        refine ⟨(hb2.alloc hsz2 _).alloc hsz3 _, by simp; omega, (hrow.alloc _).alloc _, hrh.alloc _, by simpa using hra, ?_, ?_, ?_⟩
        · intro g h1 h2
          simp [Value.ownBlock] at h1 h2
          omega
        · intro g h1 h2
          simp [Value.ownBlock] at h1 h2
          omega
        · intro g h1 h2
          simp [Value.ownBlock] at h1 h2
          omega
      rw [← HN.out] at HPS0 ⊢
      clear hrow hrh hra hsz2 hsz3 hb2 hgc hB
      generalize hcc : madeCells #[.int .u32 0] i = C1 at *
      generalize hcd : madeCells #[.int .i64 0] i = C2 at *
      clear hcc hcd
      generalize hw3 : (w2.alloc (.cells C1 33)).alloc (.cells C2 3) = w3 at *
      have HPI : Hid (PI ps n i (order.drop 0) cs (List.replicate i 0) (List.replicate i 0) (out, hands)) := ⟨HN.out.symm, by simp, by simp, HCV.out, by intro x hx; rw [List.eq_of_mem_replicate hx]; decide, HPL.out⟩
      go_wp2_with fail
      generalize w2.heap.size = gh at *
      generalize gh + 1 = ga at *
      clear hw3 hi him hni mk33 mk3
      have HNC := Lib.hid hc4
      clear hc4
      go_loopw [70] (fun iv wx => ∃ k cs' hs' ats', k ≤ q ∧ iv = .int .i64 k ∧ Hid (PS B wo wx (.slice (some ⟨gc, 0, none⟩) n capc') (.slice (some ⟨gh, 0, none⟩) i i) (.slice (some ⟨ga, 0, none⟩) i i) cs' hs' ats') ∧ Hid (PI ps n i (order.drop k) cs' hs' ats' (out, hands))) (fun iv _ => q - (intOf iv).toNat)
      case atStart => exact ⟨0, cs, _, _, Nat.zero_le _, rfl, HPS0, HPI⟩
      case round =>
        clear HPS0 HPI
        obtain ⟨k, cs', hs', ats', hk, rfl, HS, HI⟩ := hrel
        by_cases hkq : k < q
        · have hrun := HI.out.run
          have hkl : k < order.length := by rw [← HQ.out]; exact hkq
          rw [drop_getD hkl] at hrun
          obtain ⟨who, hwho⟩ : ∃ x, x = order.getD k 0 := ⟨_, rfl⟩
          rw [← hwho] at hrun
          obtain ⟨hwi0, haw, hnext⟩ := playR_some hrun
          rcases HO.out with h0 | ⟨bo, oo, rfl, hbo, hoc⟩
          · rw [h0] at hkl; simp at hkl
          have hocell := hoc k hkl
          rw [← hwho] at hocell
          rcases HPS.out with h0 | ⟨bp, rfl, hP⟩
          · rw [h0] at hwi0; simp at hwi0
          obtain ⟨pa, pc, hpc, hpp⟩ := hP.2 who hwi0
          rcases hpp with h0 | ⟨bq, rfl, hQ⟩
          · rw [h0] at haw; simp at haw
          have hwi : who < i := by rw [HM.out]; exact hwi0
          obtain ⟨j, hj⟩ : ∃ x, x = ats'.getD who 0 := ⟨_, rfl⟩
          have HA := Lib.hid (fun (wx : World) (hp : PS B wo wx (.slice (some ⟨gc, 0, none⟩) n capc') (.slice (some ⟨gh, 0, none⟩) i i) (.slice (some ⟨ga, 0, none⟩) i i) cs' hs' ats') => hp.cellA' HI.out.na hwi)
          rw [← hj] at haw hnext HA
          obtain ⟨c0, c1, c2⟩ := hQ.2 j haw
          obtain ⟨d1, d2, d3, d4⟩ := HOK.out who hwi0 j haw
          have hk12 := HP12.out who hwi
          obtain ⟨kk, hkk⟩ : ∃ x, x = (pAt ps who).length := ⟨_, rfl⟩
          rw [← hkk] at haw hpc hk12
          obtain ⟨x0, hx0⟩ : ∃ x, x = (dAt (pAt ps who) j).1 := ⟨_, rfl⟩
          obtain ⟨x1, hx1⟩ : ∃ x, x = (dAt (pAt ps who) j).2.1 := ⟨_, rfl⟩
          obtain ⟨x2, hx2⟩ : ∃ x, x = (dAt (pAt ps who) j).2.2 := ⟨_, rfl⟩
          rw [← hx0] at c0 d1 d2 hnext
          rw [← hx1] at c1 d3 hnext
          rw [← hx2] at c2 d4 hnext
          unfold natV at hocell
          have HF := Lib.hid (fun (wx : World) (hp : PS B wo wx (.slice (some ⟨gc, 0, none⟩) n capc') (.slice (some ⟨gh, 0, none⟩) i i) (.slice (some ⟨ga, 0, none⟩) i i) cs' hs' ats') =>
            have hbw : Below w.heap.size w wx := HPW.out _ (by rw [← HBW.out]; exact hp.bel)
            And.intro ((hbw.cell (p := ⟨bo, oo + k, none⟩) hbo).trans hocell) (And.intro ((hbw.cell (p := ⟨bp, who, none⟩) hP.1).trans hpc) (And.intro ((hbw.cell (p := ⟨bq, j * 3, none⟩) hQ.1).trans c0) (And.intro ((hbw.cell (p := ⟨bq, j * 3 + 1, none⟩) hQ.1).trans c1) ((hbw.cell (p := ⟨bq, j * 3 + 2, none⟩) hQ.1).trans c2)))))
          have HST := Lib.hid (fun (wx : World) (hp : PS B wo wx (.slice (some ⟨gc, 0, none⟩) n capc') (.slice (some ⟨gh, 0, none⟩) i i) (.slice (some ⟨ga, 0, none⟩) i i) cs' hs' ats') => step_is (k := x0) (c := x1) (b := x2) (i := who) hp HI.out.nc HI.out.nh d3 hwi HNC.out d4 HI.out.lc HI.out.lh d1 d2)
          have hl1 : ∀ x ∈ stepC cs' (hs'.getD who 0) x0 x1 x2, x < 4294967296 := stepC_lt HI.out.lc (HI.out.lh _ (by simp [List.getD, HI.out.nh, hwi]))
          have hl2 : stepH cs' (hs'.getD who 0) x0 x1 x2 < 4294967296 := stepH_lt HI.out.lc (HI.out.lh _ (by simp [List.getD, HI.out.nh, hwi])) (by rw [HI.out.nc]; exact d3)
          have hl3 : (stepC cs' (hs'.getD who 0) x0 x1 x2).length = n := by rw [stepC_length]; exact HI.out.nc
          have HI2 : Hid (PI ps n i (order.drop (k + 1)) (stepC cs' (hs'.getD who 0) x0 x1 x2) (hs'.set who (stepH cs' (hs'.getD who 0) x0 x1 x2)) (ats'.set who (j + 1)) (out, hands)) := ⟨hl3, by simpa using HI.out.nh, by simpa using HI.out.na, hl1, fun x hx => by
            rcases List.mem_or_eq_of_mem_set hx with h | rfl
            · exact HI.out.lh x h
            · exact hl2, hnext⟩
          have HNA := Lib.hid HI.out.na
          generalize stepC cs' (hs'.getD who 0) x0 x1 x2 = cs2 at *
          generalize hs'.set who (stepH cs' (hs'.getD who 0) x0 x1 x2) = hs2 at *
          have HJ := Lib.hid hj
          have HG2 := Lib.hid hwi
          have hki : (kk : Int) ≤ 12 := by omega
          have hji : (j : Int) < kk := by omega
          have hwii : (who : Int) < i := by omega
          have g1 : decide ((who : Int) < 0) = false := by simp
          have g2 : decide ((i : Int) ≤ who) = false := by simp; omega
          have g4 : decide (i ≤ who) = false := by simp; omega
          have g5 : ¬ (i ≤ who) := by omega
          have g6 : ¬ ((i : Int) ≤ who) := by omega
          have g3 : ((j : Int) == (kk : Int)) = false := by simp; omega
          obtain ⟨e1, e2, e3, e4, e5⟩ := HF.out _ HS.out
          have e6 := HA.out _ HS.out
          clear hrun hkl hwho hwi0 hnext hoc hocell hbo hP hpc hQ hj c0 c1 c2 d1 d2 d3 d4 hkk hx0 hx1 hx2 hl1 hl2 hl3 HI hk12 haw hwi
          go_wp2_with fail
          go_quiet (fail)
          go_wp2_with fail
          have hS4 := HS.out.drewN nq
          obtain ⟨w4, hw4⟩ : ∃ x, x = wr.drewN nq := ⟨_, rfl⟩
          rw [← hw4] at hS4 ⊢
          clear e1 e2 e3 e4 e5 e6
          obtain ⟨e1, e2, e3, e4, e5⟩ := HF.out _ hS4
          have e6 := HA.out _ hS4
          have HS5 := Lib.hid hS4.drew
          clear hw4 hS4
          go_still_tail 14, (by kernel_rfl)
          change wpList _ _ _ _ _ w4.drew
          generalize w4.drew = w5 at *
          go_wp2_with fail
          refine (HST.out _ HS5.out).mono ?_
          rintro e w6 ⟨rfl, hS6⟩
          have hI2 := HI2.out
          have na2 := HNA.out
          have h22 := HG2.out
          clear e1 e2 e3 e4 e5 e6
          have e6 := hS6.cellA' na2 h22
          rw [← HJ.out] at e6
          have hst := hS6.setA' na2 who (j + 1)
          rw [show ((j + 1 : Nat) : Int) = (j : Int) + 1 from rfl] at hst
          have hfr := hS6.frozenA na2 who
          have HST2 := Lib.hid hst
          clear hst hS6 hI2 na2 h22
          go_wp2
          go_roundw
          case rel => exact ⟨k + 1, _, _, _, by omega, by go_num, HST2.out, HI2.out⟩
          case measure => simp [intOf]; omega
        · obtain rfl : k = q := by omega
          have hrun := HI.out.run
          rw [HQ.out, List.drop_length, playR, Option.some.injEq, Prod.mk.injEq] at hrun
          obtain ⟨rfl, rfl⟩ := hrun
          have hout := u32S_of (v := .slice (some ⟨gc, 0, none⟩) n capc') HS.out.c
          have hhan := u32S_of (v := .slice (some ⟨gh, 0, none⟩) i i) HS.out.h
          have HRES := Lib.hid (show PlayPost cs' hs' w (.returned (.tuple #[.slice (some ⟨gc, 0, none⟩) n capc', .slice (some ⟨gh, 0, none⟩) i i, .int .i64 0])) wr from ⟨_, _, rfl, hout, hhan, HPW.out _ (by rw [← HBW.out]; exact HS.out.bel)⟩)
          clear hout hhan
          go_wp2
          go_ret3
          exact HRES.out
end Go.Proofs.Ytopadiofanaaiaa.TurnLaw
