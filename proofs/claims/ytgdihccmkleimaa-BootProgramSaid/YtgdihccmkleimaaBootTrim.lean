/- The walk of load.Trim. -/
import Derived.Test.YtgdihccmkleimaaBootOwn
import Derived.Deep.CutBlock
import Derived.Deep.RegionHeld3
namespace Go.Proofs.Ytgdihccmkleimaa.BootLaw
open Go.RowKit
set_option linter.unusedVariables false
set_option linter.unusedSimpArgs false
/-- the image that is made -/
structure TI (W0 wr : World) (n3 : Nat) (e : Nat) (vo : Value) (ps : List Pg) : Prop where
  B : Below n3 W0 wr
  lt : n3 < wr.heap.size
  c0 : wr.cell? ⟨n3, 0, none⟩ = some (.int .u32 e)
  c1 : wr.cell? ⟨n3, 1, none⟩ = some vo
  fz : ∀ j, wr.frozen? ⟨n3, j, none⟩ = false
  O : PgO wr (n3 + 1) vo ps
theorem TI.keep {W0 wr w' : World} {n3 e : Nat} {vo : Value} {ps : List Pg} (h : TI W0 wr n3 e vo ps) (hb : Below wr.heap.size wr w') : TI W0 w' n3 e vo ps :=
  ⟨h.B.trans (hb.mono (Nat.le_of_lt h.lt)), Nat.lt_of_lt_of_le h.lt hb.size, (hb.cell (p := ⟨n3, 0, none⟩) h.lt).trans h.c0, (hb.cell (p := ⟨n3, 1, none⟩) h.lt).trans h.c1, fun j => (hb.frozen (p := ⟨n3, j, none⟩) h.lt).trans (h.fz j), h.O.keep hb⟩
theorem take_succ_trims {ps : List Pg} {i : Nat} (h : i < ps.length) : trims (ps.take (i + 1)) = trims (ps.take i) ++ [trimP (pAt ps i)] := by
  have e : ps.take (i + 1) = ps.take i ++ [pAt ps i] := by
    rw [List.take_add_one, List.getElem?_eq_getElem h]
    unfold pAt
    rw [List.getD_eq_getElem?_getD, List.getElem?_eq_getElem h]
    rfl
  rw [e]
  unfold trims
  rw [List.map_append]
  rfl
theorem own_form {w : World} {B e n : Nat} {v : Value} {l : List Value} {s : Nat} (h : w.ownsRow B e s v n l) : ∃ p cap, v = .slice p n cap := by
  rcases h.2 with ⟨rfl, hn⟩ | ⟨g, cap', cur, rfl, _⟩
  · exact ⟨none, 0, by rw [hn]⟩
  · exact ⟨_, cap', rfl⟩
theorem one3p {a b : Int} {p : Option Addr} {n c : Nat} : ∀ u ∈ [Value.int .i64 a, .int .i64 b, .slice p n c], u.oneCell' = true := by
  intro u hu
  simp at hu
  rcases hu with rfl | rfl | rfl <;> rfl
theorem far_row {w : World} {B e s n n3 : Nat} {v : Value} {l : List Value} (h : w.ownsRow B e s v n l) (hB : n3 < B) : some n3 ≠ v.ownBlock := fun e => by have := (h.lt n3 e.symm).1; omega
theorem far_cells {w w7 : World} {n n3 n5 : Nat} {row : Option Nat} {vo a b d : Value} (h : w.cell? ⟨n3, 1, none⟩ = some vo ∧ w.cell? ⟨n5, 0, none⟩ = some a ∧ w.cell? ⟨n5, 1, none⟩ = some b ∧ w.cell? ⟨n5, 2, none⟩ = some d) (hn : n ≤ w.heap.size) (h3 : n3 < n) (h5 : n5 < n) (hg : w.grownBy w7 row) (hv : ∀ g, row = some g → g < n5) (hv3 : some n3 ≠ row) :
    w7.cell? ⟨n3, 1, none⟩ = some vo ∧ w7.cell? ⟨n5, 0, none⟩ = some a ∧ w7.cell? ⟨n5, 1, none⟩ = some b ∧ w7.cell? ⟨n5, 2, none⟩ = some d := by
  have h5' : some n5 ≠ row := fun e => by have := hv n5 e.symm; omega
  exact ⟨(hg.cell_far ⟨n3, 1, none⟩ (by show n3 < _; omega) hv3).trans h.1, (hg.cell_far ⟨n5, 0, none⟩ (by show n5 < _; omega) h5').trans h.2.1, (hg.cell_far ⟨n5, 1, none⟩ (by show n5 < _; omega) h5').trans h.2.2.1, (hg.cell_far ⟨n5, 2, none⟩ (by show n5 < _; omega) h5').trans h.2.2.2⟩
theorem far_frozen {W9 w w7 : World} {n3 : Nat} {row : Option Nat} (h : Below W9.heap.size W9 w) (h3 : n3 < W9.heap.size) (hg : w.grownBy w7 row) (hv3 : some n3 ≠ row) (hf : ∀ j, W9.frozen? ⟨n3, j, none⟩ = false) (j : Nat) : w7.frozen? ⟨n3, j, none⟩ = false :=
  (hg.frozen_far ⟨n3, j, none⟩ (Nat.lt_of_lt_of_le h3 h.size) hv3).trans ((h.frozen (p := ⟨n3, j, none⟩) h3).trans (hf j))
theorem set_cells {w : World} {n3 n5 : Nat} {a b d v : Value} (h : w.cell? ⟨n5, 0, none⟩ = some a ∧ w.cell? ⟨n5, 1, none⟩ = some b ∧ w.cell? ⟨n5, 2, none⟩ = some d) (hne : n5 ≠ n3) :
    (w.setCell ⟨n3, 1, none⟩ v).cell? ⟨n5, 0, none⟩ = some a ∧ (w.setCell ⟨n3, 1, none⟩ v).cell? ⟨n5, 1, none⟩ = some b ∧ (w.setCell ⟨n3, 1, none⟩ v).cell? ⟨n5, 2, none⟩ = some d := by
  have e : ∀ j, (w.setCell ⟨n3, 1, none⟩ v).cell? ⟨n5, j, none⟩ = w.cell? ⟨n5, j, none⟩ := fun j => World.cell?_setCell_other _ _ _ _ (by intro e; exact hne (by simpa using (congrArg Addr.block e).symm))
  exact ⟨(e 0).trans h.1, (e 1).trans h.2.1, (e 2).trans h.2.2⟩
theorem owns_base {w : World} {B B' e s n : Nat} {v : Value} {l : List Value} (h : w.ownsRow B e s v n l) (hB : B' ≤ B) : w.ownsRow B' e s v n l := by
  refine ⟨h.1, ?_⟩
  rcases h.2 with h | ⟨g, cap, cur, h1, h2, h3⟩
  · exact .inl h
  · exact .inr ⟨g, cap, cur, h1, Nat.le_trans hB h2, h3⟩
theorem owns_set {w : World} {B e s n c i : Nat} {v x : Value} {l : List Value} (h : w.ownsRow B e s v n l) (hc : c < B) : (w.setCell ⟨c, i, none⟩ x).ownsRow B e s v n l := by
  refine h.kept (row := some c) ⟨rfl, rfl, rfl, by simp [World.setCell], fun k hk hne => Below.heap_setCell _ _ _ _ (by intro e; exact hne (by rw [e]))⟩ ?_
  cases hv : v.ownBlock with
  | none => exact .inl rfl
  | some g => exact .inr (fun e => by have := (h.lt g hv).1; have := Option.some.inj e; omega)
theorem PgO.other {w : World} {B c i : Nat} {v x : Value} {ps : List Pg} (h : PgO w B v ps) (hc : c < B) : PgO (w.setCell ⟨c, i, none⟩ x) B v ps := by
  obtain ⟨qs, h1, h2, h3⟩ := h
  exact ⟨qs, h1, owns_set h2 hc, fun q hq => ⟨owns_set (h3 q hq).1 hc, (h3 q hq).2⟩⟩
theorem lt_size {a b c d : Nat} (h1 : a < b) (h2 : b < c) (h3 : c ≤ d) : a < d := by omega
theorem ti_push {W0 W9 w6 w7 : World} {n3 n5 e i : Nat} {vo p6v v7 : Value} {ps : List Pg} {qs : List (Pg × Value)} {pg rt : Int} {dl : List Int} {o : Obj} (hT : TI W0 W9 n3 e vo (trims (ps.take i))) (hq1 : qs.map Prod.fst = trims (ps.take i)) (hq2 : W9.ownsRow (n3 + 1) 96 3 vo qs.length (cellsQ qs)) (hq3 : ∀ q ∈ qs, W9.ownsRow (n3 + 1) 5 1 q.2 q.1.da.length (q.1.da.map u8V) ∧ Apart vo q.2)
    (ho6 : w6.ownsRow W9.heap.size 5 1 p6v (trimD dl).length ((trimD dl).map u8V)) (hbb : Below W9.heap.size W9 w6) (ha6 : Below W9.heap.size W9 (w6.alloc o)) (hsu : trims (ps.take (i + 1)) = trims (ps.take i) ++ [trimP ⟨pg, rt, dl⟩]) (hvl : ∀ g, vo.ownBlock = some g → g < n5) (hn5 : n5 < W9.heap.size)
    (own7 : w7.ownsRow (n3 + 1) 96 3 v7 (qs.length + 1) (cellsQ qs ++ [.int .i64 pg, .int .i64 rt, p6v])) (grow7 : (w6.alloc o).grownBy w7 vo.ownBlock) (fresh7 : v7.ownBlock = vo.ownBlock ∨ ∃ g, (w6.alloc o).heap.size ≤ g ∧ v7.ownBlock = some g) :
    TI W0 (w7.setCell ⟨n3, 1, none⟩ v7) n3 e v7 (trims (ps.take (i + 1))) := by
  have hv3 : some n3 ≠ vo.ownBlock := far_row hq2 (Nat.lt_succ_self n3)
  have hsz := hbb.size
  have hlt := hT.lt
  have hz3 : w7.cell? ⟨n3, 1, none⟩ = some vo := (grow7.cell_far ⟨n3, 1, none⟩ (by show n3 < _; simp; omega) hv3).trans ((ha6.cell (p := ⟨n3, 1, none⟩) hlt).trans hT.c1)
  have hz0 : w7.cell? ⟨n3, 0, none⟩ = some (.int .u32 e) := (grow7.cell_far ⟨n3, 0, none⟩ (by show n3 < _; simp; omega) hv3).trans ((ha6.cell (p := ⟨n3, 0, none⟩) hlt).trans hT.c0)
  have hpush : PgO w7 (n3 + 1) v7 (trims (ps.take (i + 1))) := by
    rw [hsu]
    exact PgO.push (p := ⟨pg, rt, trimD dl⟩) hq1 (fun q hq => ⟨owns_keep (hq3 q hq).1 ha6, (hq3 q hq).2⟩) (owns_keep hq2 ha6) (owns_base (ho6.alloc _) (by omega)) (fun g hg hd => by have h1 := hvl g hg; have h2 := (ho6.lt g hd).1; omega) own7 grow7 fresh7
  have hbl : Below n3 W0 w7 := (hT.B.trans (ha6.mono (Nat.le_of_lt hlt))).grown grow7 (by simp; omega) (fun k hk => by have := (hq2.lt k hk).1; omega)
  have hlt7 : n3 < w7.heap.size := World.block_lt_of_cell? w7 _ hz3
  exact ⟨hbl.setCell (Nat.le_refl _) _, by simpa [World.setCell] using hlt7, by rw [World.cell?_setCell_other _ _ _ _ (by simp)]; exact hz0, by simp [go_sem, hz3], fun j => by rw [World.frozen?_setCell]; exact far_frozen ha6 hlt grow7 hv3 hT.fz j, hpush.other (Nat.lt_succ_self n3)⟩
theorem hbx {w W0 wr : World} {n3 : Nat} (h1 : Below n3 W0 wr) (h2 : Below w.heap.size w W0) (h3 : w.heap.size + 1 + 1 = n3) : Below w.heap.size w wr := h2.trans (h1.mono (by omega))
def TrimPost (e : Nat) (ps : List Pg) (w : World) (E : Ending) (w' : World) : Prop := ∃ v' B, w.heap.size ≤ B ∧ E = .returned (.agg #[.int .u32 e, v']) ∧ PgO w' B v' (trims ps) ∧ Below w.heap.size w w'
set_option maxRecDepth 100000 in
set_option maxHeartbeats 1000000 in
theorem trim_is {w : World} {e : Nat} {v : Value} {ps : List Pg} (h64 : ps.length ≤ 64) (h16 : ∀ i, i < ps.length → (pAt ps i).da.length ≤ 16) (h : PgS w v ps) : Calls Try.prog 75 #[.agg #[.int .u32 e, v]] w (TrimPost e ps w) := by
  obtain ⟨a, cap, rfl, hl, hcap, hc⟩ := h
  have HC := Lib.hid hc
  have H16 := Lib.hid h16
  have hl64 : (ps.length : Int) ≤ 64 := by omega
  have HL := Lib.hid h64
  clear hc h16 hl hcap h64
  go_enter Try.func75, Try.ntmps75
  go_upto_region 3 with fail
  have hTI : TI (((w.alloc (.cells #[.int .u32 e, .slice a ps.length cap] 88)).alloc (.cells #[.int .u32 0, .slice none 0 0] 88)).alloc (.cells #[.int .u32 e, .slice none 0 0] 88)) (((w.alloc (.cells #[.int .u32 e, .slice a ps.length cap] 88)).alloc (.cells #[.int .u32 0, .slice none 0 0] 88)).alloc (.cells #[.int .u32 e, .slice none 0 0] 88)) (w.heap.size + 1 + 1) e (.slice none 0 0) [] := by
    have h3 := heap_alloc_new ((w.alloc (.cells #[.int .u32 e, .slice a ps.length cap] 88)).alloc (.cells #[.int .u32 0, .slice none 0 0] 88)) (.cells #[.int .u32 e, .slice none 0 0] 88)
    rw [World.size_alloc, World.size_alloc] at h3
    exact ⟨Below.refl _ _, by simp, by rw [cell_of_row _ _ _ _ _ _ h3]; rfl, by rw [cell_of_row _ _ _ _ _ _ h3]; rfl, fun j => by simp only [World.frozen?, h3]; simp, PgO.nil _ _⟩
  have hb0 : Below w.heap.size w (((w.alloc (.cells #[.int .u32 e, .slice a ps.length cap] 88)).alloc (.cells #[.int .u32 0, .slice none 0 0] 88)).alloc (.cells #[.int .u32 e, .slice none 0 0] 88)) := (Go.Joins.below_alloc2 _ _ _).alloc (by simp only [World.size_alloc]; omega) _
  have hh2 : (((w.alloc (.cells #[.int .u32 e, .slice a ps.length cap] 88)).alloc (.cells #[.int .u32 0, .slice none 0 0] 88)).alloc (.cells #[.int .u32 e, .slice none 0 0] 88)).heap[w.heap.size + 1]? = some (.cells #[.int .u32 0, .slice none 0 0] 88 (0, 0)) := by
    have h2 := heap_alloc_new (w.alloc (.cells #[.int .u32 e, .slice a ps.length cap] 88)) (.cells #[.int .u32 0, .slice none 0 0] 88)
    rw [World.size_alloc] at h2
    exact ((Go.Joins.below_alloc1 ((w.alloc (.cells #[.int .u32 e, .slice a ps.length cap] 88)).alloc (.cells #[.int .u32 0, .slice none 0 0] 88)) _).block _ (by simp only [World.size_alloc]; omega)).trans h2
  have HTI := Lib.hid hTI
  have HB0 := Lib.hid hb0
  have HH2 := Lib.hid hh2
  clear hTI hb0 hh2
  revert HTI HB0 HH2
  generalize ((w.alloc (.cells #[.int .u32 e, .slice a ps.length cap] 88)).alloc (.cells #[.int .u32 0, .slice none 0 0] 88)).alloc (.cells #[.int .u32 e, .slice none 0 0] 88) = W0
  obtain ⟨n3, hn3⟩ : ∃ n3, w.heap.size + 1 + 1 = n3 := ⟨_, rfl⟩
  rw [hn3]
  intro HTI HB0 HH2
  have HN3 := Lib.hid hn3
  clear hn3
  obtain ⟨i0, hi0, hz0, hz1, hz2⟩ := info_parts info96
  have HI0 := Lib.hid hi0
  clear hi0
  go_loopw [13] (fun iv wr => ∃ (i : Nat) (vo : Value), i ≤ ps.length ∧ iv = .int .i64 i ∧ Hid (TI W0 wr n3 e vo (trims (ps.take i)))) (fun iv _ => ps.length - (intOf iv).toNat)
  case atStart => exact ⟨0, .slice none 0 0, by omega, rfl, by rw [List.take_zero]; exact HTI.out⟩
  case round =>
    obtain ⟨i, vo, hi, rfl, HT⟩ := hrel
    by_cases hil : i < ps.length
    · rcases HC.out with h | ⟨b, off, D, rfl, hlt, hcell⟩
      · rw [h] at hil; simp at hil
      · have hbw : Below w.heap.size w wr := HB0.out.trans (HT.out.B.mono (by have := HN3.out; omega))
        obtain ⟨hc0, hc1, hc2, hbs⟩ := hcell i hil
        obtain ⟨da, dc, hd, hdl, hdm, hdc⟩ := hbs
        have x0 := (hbw.cell (p := ⟨b, off + i * 3, none⟩) hlt).trans hc0
        have x1 := (hbw.cell (p := ⟨b, off + i * 3 + 1, none⟩) hlt).trans hc1
        have x2 := (hbw.cell (p := ⟨b, off + i * 3 + 2, none⟩) hlt).trans hc2
        rw [hd] at x2
        have hbsw : BS wr (.slice da (pAt ps i).da.length dc) (pAt ps i).da := by
          have := (hcell i hil).2.2.2.keep hbw
          rw [hd] at this
          exact this
        have hdi : (i : Int) < (ps.length : Int) := by omega
        have hs := take_succ_trims hil
        have hl16 := H16.out i hil
        have HSU := Lib.hid hs
        have HBS := Lib.hid hbsw
        clear hbw hc0 hc1 hc2 hd hdc hcell hbsw hs
        generalize pAt ps i = p at *
        obtain ⟨pg, rt, dl⟩ := p
        dsimp only at x0 x1 x2 hdl hdm hl16
        go_upto_region 5 with fail
        have hal := Go.Joins.below_alloc1 wr (.cells #[.int .i64 pg, .int .i64 rt, .slice da dl.length dc] 96)
        have hh := heap_alloc_new wr (.cells #[.int .i64 pg, .int .i64 rt, .slice da dl.length dc] 96)
        have y0 : (wr.alloc (.cells #[.int .i64 pg, .int .i64 rt, .slice da dl.length dc] 96)).cell? ⟨wr.heap.size, 0, none⟩ = some (.int .i64 pg) := by rw [cell_of_row _ _ _ _ _ _ hh]; rfl
        have y1 : (wr.alloc (.cells #[.int .i64 pg, .int .i64 rt, .slice da dl.length dc] 96)).cell? ⟨wr.heap.size, 1, none⟩ = some (.int .i64 rt) := by rw [cell_of_row _ _ _ _ _ _ hh]; rfl
        have y2 : (wr.alloc (.cells #[.int .i64 pg, .int .i64 rt, .slice da dl.length dc] 96)).cell? ⟨wr.heap.size, 2, none⟩ = some (.slice da dl.length dc) := by rw [cell_of_row _ _ _ _ _ _ hh]; rfl
        have HT9 := Lib.hid (HT.out.keep hal)
        have HBS9 := Lib.hid (HBS.out.keep hal)
        have HN5 := Lib.hid HT.out.lt
        have HVL := Lib.hid (show ∀ g, vo.ownBlock = some g → g < wr.heap.size from fun g hg => by obtain ⟨qs, _, h2, _⟩ := HT.out.O; exact (h2.lt g hg).2)
        have HV3 := Lib.hid (show some n3 ≠ vo.ownBlock from by obtain ⟨qs, _, h2, _⟩ := HT.out.O; exact far_row h2 (Nat.lt_succ_self n3))
        clear hal hh x0 x1 x2 HT HBS
        revert y0 y1 y2 HT9 HBS9 HN5 HVL
        generalize wr.alloc (.cells #[.int .i64 pg, .int .i64 rt, .slice da dl.length dc] 96) = W9
        generalize wr.heap.size = n5
        intro y0 y1 y2 HT9 HBS9 HN5 HVL
        have hdl16 : (dl.length : Int) ≤ 16 := by omega
        go_upto_block 2 with fail
        go_cut [6, 7, 8, 9, 10, 11, 12, 13] from 6 to 48 (fun s6 s7 s8 s9 s10 s11 s12 s13 wx => s6 = .int .i64 (trimN dl dl.length) ∧ s7 = .pointer (some ⟨w.heap.size, 0, none⟩) ∧ s8 = .int .u32 e ∧ s9 = .agg #[.int .u32 e, .slice none 0 0] ∧ s10 = .pointer (some ⟨w.heap.size, 1, none⟩) ∧ s11 = .slice (some ⟨b, off, none⟩) ps.length cap ∧ s12 = .int .i64 ps.length ∧ s13 = .int .i64 i ∧ wx = W9)
        case first =>
          go_wp2_with fail
          go_loopw [6] (fun nv wx => ∃ k : Nat, k ≤ dl.length ∧ nv = .int .i64 k ∧ Hid (trimN dl dl.length = trimN dl k) ∧ wx = W9) (fun nv _ => (intOf nv).toNat)
          case atStart => exact ⟨dl.length, Nat.le_refl _, rfl, rfl, rfl⟩
          case round =>
            obtain ⟨k, hk, rfl, HK, rfl⟩ := hrel
            by_cases hk0 : k = 0
            · subst hk0
              go_wp2_with fail
              go_meet
              case rel => exact ⟨by rw [HK.out]; rfl, rfl, rfl, rfl, rfl, rfl, rfl, rfl, rfl⟩
            · obtain ⟨j, rfl⟩ : ∃ j, k = j + 1 := ⟨k - 1, by omega⟩
              obtain ⟨ra, rc, hrv, hrl, hrm, hrc⟩ := HBS9.out
              simp only [Value.slice.injEq] at hrv
              obtain ⟨rfl, -, rfl⟩ := hrv
              rcases hrc with h | ⟨db, doff, rfl, hdlt, hdc⟩
              · rw [h] at hk; simp at hk
              · have hjl : j < dl.length := by omega
                have z := hdc j hjl
                have hj0 : (0 : Int) < (j : Int) + 1 := by omega
                have hj1 : (j : Int) < (dl.length : Int) := by omega
                have hk2 : trimN dl (j + 1) = if dl.getD j 0 = 0 then trimN dl j else j + 1 := rfl
                have HK2 := Lib.hid hk2
                clear hk2 hdc
                generalize dl.getD j 0 = c at *
                by_cases hc0 : c = 0
                · subst hc0
                  go_wp2_with fail
                  go_roundw
                  case rel => exact ⟨j, by omega, by go_num, Lib.hid (HK.out.trans (HK2.out.trans (if_pos rfl))), trivial⟩
                  case measure => simp [intOf]
                · have hcb : (c == 0) = false := by simpa using hc0
                  go_wp2_with fail
                  go_meet
                  case rel => exact ⟨by rw [HK.out, HK2.out, if_neg hc0], rfl, rfl, rfl, rfl, rfl, rfl, rfl, rfl⟩
        case rest =>
          obtain ⟨rfl, rfl, rfl, rfl, rfl, rfl, rfl, rfl, rfl⟩ := hcut
          have htn := trimN_le dl dl.length
          have htl := trimD_len dl
          have htd : trimD dl = dl.take (trimN dl dl.length) := rfl
          generalize trimN dl dl.length = t at *
          obtain ⟨W9, rfl⟩ : ∃ x : World, x = wc := ⟨_, rfl⟩
          go_upto_region 8 with fail
          have m1 := HT9.out.c1
          have mf := HT9.out.fz
          have hsl : BS W9 (.slice da t dc) (trimD dl) := by
            obtain ⟨ra, rc, hrv, hrl, hrm, hrc⟩ := HBS9.out
            simp only [Value.slice.injEq] at hrv
            obtain ⟨rfl, -, rfl⟩ := hrv
            refine ⟨da, dc, by rw [htl], by rw [htl]; omega, hrm, ?_⟩
            rcases hrc with h | ⟨db, doff, rfl, hdlt, hdc⟩
            · left
              have h : dl = [] := h
              rw [htd, h]
              simp
            · refine .inr ⟨db, doff, rfl, hdlt, fun j hj => ?_⟩
              rw [htl] at hj
              have hdc : ∀ j, j < dl.length → W9.cell? ⟨db, doff + j, none⟩ = some (.int .u8 (dl.getD j 0)) := hdc
              rw [hdc j (by omega), htd, getD_take hj]
          have hcl := fun wx (hb : Below W9.heap.size W9 wx) => clone_is (by rw [htl]; omega) (hsl.keep hb)
          have HCL := Lib.hid hcl
          have htc : (t : Int) ≤ (dc : Int) := by omega
          have htc2 : t ≤ dc := by omega
          have hT9 := HT9.out
          obtain ⟨qs, hq1, hq2, hq3⟩ := hT9.O
          have hqn : qs.length = i := by rw [← List.length_map (f := Prod.fst), hq1, trims_length, List.length_take]; omega
          have HQ1 := Lib.hid hq1
          have HQ2 := Lib.hid hq2
          have HQ3 := Lib.hid hq3
          have HQN := Lib.hid hqn
          have HI64 := Lib.hid (show i < 64 by have := HL.out; omega)
          have HHO := Lib.hid (show ∀ wx, Below W9.heap.size W9 wx → (Below W9.heap.size W9 wx ∧ wx.cell? ⟨n3, 1, none⟩ = some vo ∧ wx.cell? ⟨n5, 0, none⟩ = some (.int .i64 pg) ∧ wx.cell? ⟨n5, 1, none⟩ = some (.int .i64 rt) ∧ wx.cell? ⟨n5, 2, none⟩ = some (.slice da dl.length dc)) from fun wx hb => ⟨hb, (hb.cell (p := ⟨n3, 1, none⟩) (World.block_lt_of_cell? W9 _ m1)).trans m1, (hb.cell (p := ⟨n5, 0, none⟩) (World.block_lt_of_cell? W9 _ y0)).trans y0, (hb.cell (p := ⟨n5, 1, none⟩) (World.block_lt_of_cell? W9 _ y1)).trans y1, (hb.cell (p := ⟨n5, 2, none⟩) (World.block_lt_of_cell? W9 _ y2)).trans y2⟩)
          clear hsl hcl hT9 hq1 hq2 hq3 hqn htd
          have HTL := Lib.hid htl
          clear htl htn
          have HNE := Lib.hid (show n5 ≠ n3 by have := HN5.out; omega)
          have HM1 := Lib.hid m1
          have HMF := Lib.hid mf
          have HY0 := Lib.hid y0
          refine wp_region_held_drew (S := fun wx => wx.cell? ⟨n5, 0, none⟩ = some (.int .i64 pg) ∧ wx.cell? ⟨n5, 1, none⟩ = some (.int .i64 rt) ∧ wx.cell? ⟨n5, 2, none⟩ = some (.slice da dl.length dc)) (by kernel_rfl) ((HHO.out _ (Below.refl _ _).drew).2.2) (fun hHeld => ?_)
          refine wpAnyH_take (i := 0) (v := ?_) rfl (by kernel_rfl) (by kernel_rfl) (by kernel_rfl) (fun _ _ _ h => h) (Or.inl ⟨by rfl, ?_⟩) (by assumption) ?_
          rotate_left
          · intro w hSw; (try dsimp only at hSw); go_simp; (try with_reducible rfl)
          try simp only [Act.put, List.setIfInBounds_toArray, List.set_cons_zero, List.set_cons_succ]
          refine wpAnyH_take (i := 2) (v := ?_) rfl (by kernel_rfl) (by kernel_rfl) (by kernel_rfl) (fun _ _ _ h => h) (Or.inl ⟨by rfl, ?_⟩) (by assumption) ?_
          rotate_left
          · intro w hSw; (try dsimp only at hSw); go_simp; (try with_reducible rfl)
          try simp only [Act.put, List.setIfInBounds_toArray, List.set_cons_zero, List.set_cons_succ]
          refine wpAnyH_take (i := 3) (v := ?_) rfl (by kernel_rfl) (by kernel_rfl) (by kernel_rfl) (fun _ _ _ h => h) (Or.inl ⟨by rfl, ?_⟩) (by assumption) ?_
          rotate_left
          · intro w hSw; (try dsimp only at hSw); go_simp; (try with_reducible rfl)
          try simp only [Act.put, List.setIfInBounds_toArray, List.set_cons_zero, List.set_cons_succ]
          refine wpAnyH_take (i := 4) (v := ?_) rfl (by kernel_rfl) (by kernel_rfl) (by kernel_rfl) (fun _ _ _ h => h) (Or.inl ⟨by rfl, ?_⟩) (by assumption) ?_
          rotate_left
          · intro w hSw; (try dsimp only at hSw); go_simp; (try with_reducible rfl)
          try simp only [Act.put, List.setIfInBounds_toArray, List.set_cons_zero, List.set_cons_succ]
          refine wpAnyH_take (i := 5) (v := ?_) rfl (by kernel_rfl) (by kernel_rfl) (by kernel_rfl) (fun _ _ _ h => h) (Or.inl ⟨by rfl, ?_⟩) (by assumption) ?_
          rotate_left
          · intro w hSw; (try dsimp only at hSw); go_simp; (try with_reducible rfl)
          try simp only [Act.put, List.setIfInBounds_toArray, List.set_cons_zero, List.set_cons_succ]
          refine wpAnyH_take (i := 6) (v := ?_) rfl (by kernel_rfl) (by kernel_rfl) (by kernel_rfl) (fun _ _ _ h => h) (Or.inl ⟨by rfl, ?_⟩) (by assumption) ?_
          rotate_left
          · intro w hSw; (try dsimp only at hSw); go_simp; (try with_reducible rfl)
          try simp only [Act.put, List.setIfInBounds_toArray, List.set_cons_zero, List.set_cons_succ]
          refine wpAnyH_take (i := 7) (v := ?_) rfl (by kernel_rfl) (by kernel_rfl) (by kernel_rfl) (fun _ _ _ h => h) (Or.inl ⟨by rfl, ?_⟩) (by assumption) ?_
          rotate_left
          · intro w hSw; (try dsimp only at hSw); go_simp; (try with_reducible rfl)
          try simp only [Act.put, List.setIfInBounds_toArray, List.set_cons_zero, List.set_cons_succ]
          refine wpAnyH_take (i := 8) (v := ?_) rfl (by kernel_rfl) (by kernel_rfl) (by kernel_rfl) (fun _ _ _ h => h) (Or.inl ⟨by rfl, ?_⟩) (by assumption) ?_
          rotate_left
          · intro w hSw; (try dsimp only at hSw); go_simp; (try with_reducible rfl)
          try simp only [Act.put, List.setIfInBounds_toArray, List.set_cons_zero, List.set_cons_succ]
          refine wpAnyH_take (i := 9) (v := ?_) rfl (by kernel_rfl) (by kernel_rfl) (by kernel_rfl) (fun _ _ _ h => h) (Or.inl ⟨by rfl, ?_⟩) (by assumption) ?_
          rotate_left
          · intro w hSw; (try dsimp only at hSw); go_simp; (try with_reducible rfl)
          try simp only [Act.put, List.setIfInBounds_toArray, List.set_cons_zero, List.set_cons_succ]
          refine wpAnyH_ready (rs := [1, 10]) (by kernel_rfl) (by simp) ?_
          refine AllReadyH.cons rfl (fun K hK => ?_) (AllReadyH.cons rfl (fun K hK => ?_) AllReadyH.nil)
          · go_simp
            refine hK.out _ _ ((HHO.out _ (Below.refl _ _).drew).2.2) (fun hHeld => ?_)
            try simp only [Act.put, List.setIfInBounds_toArray, List.set_cons_zero, List.set_cons_succ]
            clear hK
            refine wpAnyH_ready (rs := [10]) (by kernel_rfl) (by simp) ?_
            refine AllReadyH.cons rfl (fun K hK => ?_) AllReadyH.nil
            go_simp
            go_at_call 76
            refine (HCL.out _ (Below.refl _ _).drew).mono ?_
            rintro e6 w6 ⟨v6, rfl, ho6, hb6⟩
            obtain ⟨p6, c6, rfl⟩ := own_form ho6
            have HO6 := Lib.hid ho6
            have HBB := Lib.hid ((Below.refl W9.heap.size W9).drew.trans hb6)
            have HV6 := Lib.hid (owns_keep HQ2.out HBB.out)
            have HZ6 := Lib.hid (lt_size HN5.out (World.block_lt_of_cell? W9 _ HY0.out) HBB.out.size)
            have HA6 := Lib.hid (HBB.out.alloc HBB.out.size (.cells #[.int .i64 pg, .int .i64 rt, .slice p6 (trimD dl).length c6] 96))
            have HCN := Lib.hid (cells_new w6 [.int .i64 pg, .int .i64 rt, .slice p6 (trimD dl).length c6] 96)
            have z6 := (HHO.out _ HBB.out).2.1
            have z6a := (HHO.out _ HA6.out).2.1
            clear ho6 hb6
            go_wp2_with fail
            refine hK.out _ _ ((HHO.out _ HBB.out).2.2) (fun hHeld => ?_)
            try simp only [Act.put, List.setIfInBounds_toArray, List.set_cons_zero, List.set_cons_succ]
            clear hK
            refine wpAnyH_take (i := 11) (v := ?_) rfl (by kernel_rfl) (by kernel_rfl) (by kernel_rfl) (fun _ _ _ h => h) (Or.inl ⟨by rfl, ?_⟩) (by assumption) ?_
            rotate_left
            · intro w hSw; (try dsimp only at hSw); go_simp; (try with_reducible rfl)
            try simp only [Act.put, List.setIfInBounds_toArray, List.set_cons_zero, List.set_cons_succ]
            refine wpAnyH_ready (rs := [12]) (by kernel_rfl) (by simp) ?_
            refine AllReadyH.cons rfl (fun K hK => ?_) AllReadyH.nil
            go_simp
            refine hK.out _ _ ((HHO.out _ HA6.out).2.2) (fun hHeld => ?_)
            try simp only [Act.put, List.setIfInBounds_toArray, List.set_cons_zero, List.set_cons_succ]
            clear hK
            refine wpAnyH_ready (rs := [13]) (by kernel_rfl) (by simp) ?_
            refine AllReadyH.cons rfl (fun K hK => ?_) AllReadyH.nil
            refine step_append_fresh rfl (.tmp 34) (.tmp 45) 86 rfl (n3 + 1) 96 i0 (.agg #[.int .i64 0, .int .i64 0, .slice none 0 0]) 3 40 Try.underlying86 HI0.out hz0 hz1 hz2 rfl (by decide) vo qs.length (cellsQ qs) rfl (HV6.out.alloc _) ⟨_, 0, none⟩ 1 1 [.int .i64 pg, .int .i64 rt, .slice p6 (trimD dl).length c6] rfl rfl HCN.out one3p (by have := HQN.out; have := HI64.out; unfold maxLen; omega) (by have := HQN.out; have := HI64.out; omega) (by have := HZ6.out; simp; omega) ?_
            intro v7 w7 own7 grow7 fresh7
            obtain ⟨p7, c7, rfl⟩ := own_form own7
            have HS7 := Lib.hid (far_cells (HHO.out _ HA6.out).2 HA6.out.size (World.block_lt_of_cell? W9 _ HM1.out) (World.block_lt_of_cell? W9 _ HY0.out) grow7 HVL.out HV3.out)
            have hz3 := HS7.out.1
            have hzf : ∀ j, w7.frozen? ⟨n3, j, none⟩ = false := far_frozen HA6.out (World.block_lt_of_cell? W9 _ HM1.out) grow7 HV3.out HMF.out
            have HTF := Lib.hid (ti_push HT9.out HQ1.out HQ2.out HQ3.out HO6.out HBB.out HA6.out HSU.out HVL.out (World.block_lt_of_cell? W9 _ HY0.out) own7 grow7 fresh7)
            clear own7 grow7 fresh7 z6 z6a
            refine hK.out _ _ (HS7.out.2) (fun hHeld => ?_)
            try simp only [Act.put, List.setIfInBounds_toArray, List.set_cons_zero, List.set_cons_succ]
            clear hK
            refine wpAnyH_take (i := 14) (v := ?_) rfl (by kernel_rfl) (by kernel_rfl) (by kernel_rfl) (fun _ _ _ h => h) (Or.inl ⟨by rfl, ?_⟩) (by assumption) ?_
            rotate_left
            · intro w hSw; (try dsimp only at hSw); go_simp; (try with_reducible rfl)
            try simp only [Act.put, List.setIfInBounds_toArray, List.set_cons_zero, List.set_cons_succ]
            refine wpAnyH_ready (rs := [15]) (by kernel_rfl) (by simp) ?_
            refine AllReadyH.cons rfl (fun K hK => ?_) AllReadyH.nil
            go_simp
            refine hK.out _ _ (set_cells HS7.out.2 HNE.out) (fun hHeld => ?_)
            try simp only [Act.put, List.setIfInBounds_toArray, List.set_cons_zero, List.set_cons_succ]
            clear hK
            refine wpAnyH_done (by kernel_rfl) ?_ _
            clear hz3 hzf
            go_wp2_with fail
            go_roundw
            case rel => exact ⟨i + 1, _, by omega, by go_num, HTF⟩
            case measure => simp [intOf]; omega
          · go_simp
            go_at_call 76
            refine (HCL.out _ (Below.refl _ _).drew).mono ?_
            rintro e6 w6 ⟨v6, rfl, ho6, hb6⟩
            obtain ⟨p6, c6, rfl⟩ := own_form ho6
            have HO6 := Lib.hid ho6
            have HBB := Lib.hid ((Below.refl W9.heap.size W9).drew.trans hb6)
            have HV6 := Lib.hid (owns_keep HQ2.out HBB.out)
            have HZ6 := Lib.hid (lt_size HN5.out (World.block_lt_of_cell? W9 _ HY0.out) HBB.out.size)
            have HA6 := Lib.hid (HBB.out.alloc HBB.out.size (.cells #[.int .i64 pg, .int .i64 rt, .slice p6 (trimD dl).length c6] 96))
            have HCN := Lib.hid (cells_new w6 [.int .i64 pg, .int .i64 rt, .slice p6 (trimD dl).length c6] 96)
            have z6 := (HHO.out _ HBB.out).2.1
            have z6a := (HHO.out _ HA6.out).2.1
            clear ho6 hb6
            go_wp2_with fail
            refine hK.out _ _ ((HHO.out _ HBB.out).2.2) (fun hHeld => ?_)
            try simp only [Act.put, List.setIfInBounds_toArray, List.set_cons_zero, List.set_cons_succ]
            clear hK
            refine wpAnyH_take (i := 11) (v := ?_) rfl (by kernel_rfl) (by kernel_rfl) (by kernel_rfl) (fun _ _ _ h => h) (Or.inl ⟨by rfl, ?_⟩) (by assumption) ?_
            rotate_left
            · intro w hSw; (try dsimp only at hSw); go_simp; (try with_reducible rfl)
            try simp only [Act.put, List.setIfInBounds_toArray, List.set_cons_zero, List.set_cons_succ]
            refine wpAnyH_ready (rs := [1, 12]) (by kernel_rfl) (by simp) ?_
            refine AllReadyH.cons rfl (fun K hK => ?_) (AllReadyH.cons rfl (fun K hK => ?_) AllReadyH.nil)
            · go_simp
              refine hK.out _ _ ((HHO.out _ HBB.out).2.2) (fun hHeld => ?_)
              try simp only [Act.put, List.setIfInBounds_toArray, List.set_cons_zero, List.set_cons_succ]
              clear hK
              refine wpAnyH_ready (rs := [12]) (by kernel_rfl) (by simp) ?_
              refine AllReadyH.cons rfl (fun K hK => ?_) AllReadyH.nil
              go_simp
              refine hK.out _ _ ((HHO.out _ HA6.out).2.2) (fun hHeld => ?_)
              try simp only [Act.put, List.setIfInBounds_toArray, List.set_cons_zero, List.set_cons_succ]
              clear hK
              refine wpAnyH_ready (rs := [13]) (by kernel_rfl) (by simp) ?_
              refine AllReadyH.cons rfl (fun K hK => ?_) AllReadyH.nil
              refine step_append_fresh rfl (.tmp 34) (.tmp 45) 86 rfl (n3 + 1) 96 i0 (.agg #[.int .i64 0, .int .i64 0, .slice none 0 0]) 3 40 Try.underlying86 HI0.out hz0 hz1 hz2 rfl (by decide) vo qs.length (cellsQ qs) rfl (HV6.out.alloc _) ⟨_, 0, none⟩ 1 1 [.int .i64 pg, .int .i64 rt, .slice p6 (trimD dl).length c6] rfl rfl HCN.out one3p (by have := HQN.out; have := HI64.out; unfold maxLen; omega) (by have := HQN.out; have := HI64.out; omega) (by have := HZ6.out; simp; omega) ?_
              intro v7 w7 own7 grow7 fresh7
              obtain ⟨p7, c7, rfl⟩ := own_form own7
              have HS7 := Lib.hid (far_cells (HHO.out _ HA6.out).2 HA6.out.size (World.block_lt_of_cell? W9 _ HM1.out) (World.block_lt_of_cell? W9 _ HY0.out) grow7 HVL.out HV3.out)
              have hz3 := HS7.out.1
              have hzf : ∀ j, w7.frozen? ⟨n3, j, none⟩ = false := far_frozen HA6.out (World.block_lt_of_cell? W9 _ HM1.out) grow7 HV3.out HMF.out
              have HTF := Lib.hid (ti_push HT9.out HQ1.out HQ2.out HQ3.out HO6.out HBB.out HA6.out HSU.out HVL.out (World.block_lt_of_cell? W9 _ HY0.out) own7 grow7 fresh7)
              clear own7 grow7 fresh7 z6 z6a
              refine hK.out _ _ (HS7.out.2) (fun hHeld => ?_)
              try simp only [Act.put, List.setIfInBounds_toArray, List.set_cons_zero, List.set_cons_succ]
              clear hK
              refine wpAnyH_take (i := 14) (v := ?_) rfl (by kernel_rfl) (by kernel_rfl) (by kernel_rfl) (fun _ _ _ h => h) (Or.inl ⟨by rfl, ?_⟩) (by assumption) ?_
              rotate_left
              · intro w hSw; (try dsimp only at hSw); go_simp; (try with_reducible rfl)
              try simp only [Act.put, List.setIfInBounds_toArray, List.set_cons_zero, List.set_cons_succ]
              refine wpAnyH_ready (rs := [15]) (by kernel_rfl) (by simp) ?_
              refine AllReadyH.cons rfl (fun K hK => ?_) AllReadyH.nil
              go_simp
              refine hK.out _ _ (set_cells HS7.out.2 HNE.out) (fun hHeld => ?_)
              try simp only [Act.put, List.setIfInBounds_toArray, List.set_cons_zero, List.set_cons_succ]
              clear hK
              refine wpAnyH_done (by kernel_rfl) ?_ _
              clear hz3 hzf
              go_wp2_with fail
              go_roundw
              case rel => exact ⟨i + 1, _, by omega, by go_num, HTF⟩
              case measure => simp [intOf]; omega
            · go_simp
              refine hK.out _ _ ((HHO.out _ HA6.out).2.2) (fun hHeld => ?_)
              try simp only [Act.put, List.setIfInBounds_toArray, List.set_cons_zero, List.set_cons_succ]
              clear hK
              refine wpAnyH_ready (rs := [1]) (by kernel_rfl) (by simp) ?_
              refine AllReadyH.cons rfl (fun K hK => ?_) AllReadyH.nil
              go_simp
              refine hK.out _ _ ((HHO.out _ HA6.out).2.2) (fun hHeld => ?_)
              try simp only [Act.put, List.setIfInBounds_toArray, List.set_cons_zero, List.set_cons_succ]
              clear hK
              refine wpAnyH_ready (rs := [13]) (by kernel_rfl) (by simp) ?_
              refine AllReadyH.cons rfl (fun K hK => ?_) AllReadyH.nil
              refine step_append_fresh rfl (.tmp 34) (.tmp 45) 86 rfl (n3 + 1) 96 i0 (.agg #[.int .i64 0, .int .i64 0, .slice none 0 0]) 3 40 Try.underlying86 HI0.out hz0 hz1 hz2 rfl (by decide) vo qs.length (cellsQ qs) rfl (HV6.out.alloc _) ⟨_, 0, none⟩ 1 1 [.int .i64 pg, .int .i64 rt, .slice p6 (trimD dl).length c6] rfl rfl HCN.out one3p (by have := HQN.out; have := HI64.out; unfold maxLen; omega) (by have := HQN.out; have := HI64.out; omega) (by have := HZ6.out; simp; omega) ?_
              intro v7 w7 own7 grow7 fresh7
              obtain ⟨p7, c7, rfl⟩ := own_form own7
              have HS7 := Lib.hid (far_cells (HHO.out _ HA6.out).2 HA6.out.size (World.block_lt_of_cell? W9 _ HM1.out) (World.block_lt_of_cell? W9 _ HY0.out) grow7 HVL.out HV3.out)
              have hz3 := HS7.out.1
              have hzf : ∀ j, w7.frozen? ⟨n3, j, none⟩ = false := far_frozen HA6.out (World.block_lt_of_cell? W9 _ HM1.out) grow7 HV3.out HMF.out
              have HTF := Lib.hid (ti_push HT9.out HQ1.out HQ2.out HQ3.out HO6.out HBB.out HA6.out HSU.out HVL.out (World.block_lt_of_cell? W9 _ HY0.out) own7 grow7 fresh7)
              clear own7 grow7 fresh7 z6 z6a
              refine hK.out _ _ (HS7.out.2) (fun hHeld => ?_)
              try simp only [Act.put, List.setIfInBounds_toArray, List.set_cons_zero, List.set_cons_succ]
              clear hK
              refine wpAnyH_take (i := 14) (v := ?_) rfl (by kernel_rfl) (by kernel_rfl) (by kernel_rfl) (fun _ _ _ h => h) (Or.inl ⟨by rfl, ?_⟩) (by assumption) ?_
              rotate_left
              · intro w hSw; (try dsimp only at hSw); go_simp; (try with_reducible rfl)
              try simp only [Act.put, List.setIfInBounds_toArray, List.set_cons_zero, List.set_cons_succ]
              refine wpAnyH_ready (rs := [15]) (by kernel_rfl) (by simp) ?_
              refine AllReadyH.cons rfl (fun K hK => ?_) AllReadyH.nil
              go_simp
              refine hK.out _ _ (set_cells HS7.out.2 HNE.out) (fun hHeld => ?_)
              try simp only [Act.put, List.setIfInBounds_toArray, List.set_cons_zero, List.set_cons_succ]
              clear hK
              refine wpAnyH_done (by kernel_rfl) ?_ _
              clear hz3 hzf
              go_wp2_with fail
              go_roundw
              case rel => exact ⟨i + 1, _, by omega, by go_num, HTF⟩
              case measure => simp [intOf]; omega
    · obtain rfl : i = ps.length := by omega
      rw [List.take_length] at HT
      have g0 := HT.out.c0
      have g1 := HT.out.c1
      have hn2 := (HT.out.B.block (w.heap.size + 1) (by have := HN3.out; omega)).trans HH2.out
      have k0 : wr.cell? ⟨w.heap.size + 1, 0, none⟩ = some (.int .u32 0) := by rw [cell_of_row _ _ _ _ _ _ hn2]; rfl
      have k1 : wr.cell? ⟨w.heap.size + 1, 1, none⟩ = some (.slice none 0 0) := by rw [cell_of_row _ _ _ _ _ _ hn2]; rfl
      have kf : ∀ j, wr.frozen? ⟨w.heap.size + 1, j, none⟩ = false := fun j => by simp only [World.frozen?, hn2]; simp
      obtain ⟨va, vc, hvo⟩ := HT.out.O.slice
      have HN2 := Lib.hid hn2
      clear hn2
      subst hvo
      go_wp2_with fail
      have hB := (hbx HT.out.B HB0.out HN3.out)
      exact bodyPost_ret (v := .agg #[.int .u32 e, .slice va (trims ps).length vc]) (by simp [results, Try.results75, go_sem, k0, k1]) rfl ⟨_, n3 + 1, by have := HN3.out; omega, rfl, ((HT.out.O.other (by have := HN3.out; omega)).other (by have := HN3.out; omega)), (hB.setCell (by simp) _).setCell (by simp) _⟩
end Go.Proofs.Ytgdihccmkleimaa.BootLaw
