/- The walk of ringtop.TopTurnsTwo's play. The walk of ringtop.TopTurnsTwo's play. The law of ringtop.TopTurnsTwo: what the two plays wrote down is compared. No walk here. The walk of ringtop.TopTurnsTwo. -/
import Derived.Test.YtnbhohaphmilmaaGreatDoorRegEq
namespace Go.Proofs.YtnbhohaphmilmaaGreatDoor
open Go.RowKit
set_option linter.unusedVariables false
set_option linter.unusedSimpArgs false
/-- the programs of all processes -/
def prgs (ls : List (List CodeLaw.Ins)) (p : Nat) : List CodeLaw.Ins := (loopL :: ls).getD (p - 1) loopL
theorem prgs_any {ls : List (List CodeLaw.Ins)} (h : ∀ l ∈ ls, PrgOk l) (p : Nat) : PrgA (prgs ls p) := by
  unfold prgs
  rw [List.getD_eq_getElem?_getD]
  cases e : (loopL :: ls)[p - 1]? with
  | none => exact loop_any
  | some l =>
    rcases List.mem_cons.1 (List.mem_of_getElem? e) with q | q
    · show PrgA l
      rw [q]; exact loop_any
    · exact (h l q).any
theorem prgs_at {ls : List (List CodeLaw.Ins)} {i : Nat} {l : List CodeLaw.Ins} (h : (loopL :: ls)[i]? = some l) : prgs ls (i + 1) = l := by
  unfold prgs
  rw [List.getD_eq_getElem?_getD, show i + 1 - 1 = i by omega, h]
  rfl
theorem infoO : (Tryz.prog.info? 40).map (fun i => (i.zero, i.size, i.bytes)) = some (some (.slice none 0 0), 1, 24) := by kernel_rfl
def mkO (a b : Value) : Sem Value := Instr.makeSlice 26 a b
theorem mkO_eq (a b : Value) : Instr.makeSlice 26 a b = mkO a b := rfl
theorem mkO_run (w : World) (n : Nat) (hn : n ≤ 8) {B : Nat} (hB : B ≤ w.heap.size) (P : Nat → List CodeLaw.Ins) : ∃ w', (mkO (.int .i64 (n : Int)) (.int .i64 (n : Int))).run Tryz.prog w = .ok (.slice (some ⟨w.heap.size, 0, none⟩) n n) w' ∧ OutB B w' w.heap.size n P (fun _ => 0) (fun _ => .slice none 0 0) ∧ Below w.heap.size w w' := by
  obtain ⟨i, hi, hz, h3, h4⟩ := info_parts infoO
  have hr := run_makeSlice (P := Tryz.prog) w 26 40 i (.slice none 0 0) Tryz.underlying26 hi hz .i64 .i64 (n : Int) (n : Int) (by omega) (Int.le_refl _) (by rw [h3, Int.toNat_natCast]; omega) (by rw [h4]; omega) (by omega)
  have hs : (madeCells (Value.cells (.slice none 0 0)) ((n : Int).toNat * i.size)).size = n := by rw [h3, Int.toNat_natCast, size_madeCells, Nat.mul_one]
  refine ⟨_, hr, ⟨⟨_, row_new w _ _, hs, fun k hk => ?_⟩, hB, fun k hk => World.ownsRow_nil _ _ _ _, fun k hk e => (by cases e), fun k j b hk hj e => (by cases e)⟩, Go.Joins.below_alloc1 _ _⟩
  rw [Array.getElem?_eq_getElem (by rw [hs]; exact hk)]
  simp [madeCells, Value.cells, Nat.mod_one]
/-- a play's state -/
structure Py (w0 w : World) (k : KC) (s : KSt) (Ob nc N nt : Nat) (P : Nat → List CodeLaw.Ins) (cnt : Nat → Nat) (vs : Nat → Value) (j : Nat) : Prop where
  sv : Sv w0 w k s
  tz : Tz s nc N nt P cnt
  ntj : nt ≤ j
  cj : ∀ p, cnt p ≤ j
  ob : OutB w0.heap.size w Ob N P cnt vs
  tO : s.tag Ob = 0
  tv : ∀ i b, i < N → (vs i).ownBlock = some b → s.tag b = 0
section
variable {w0 w w' : World} {k : KC} {s : KSt} {Ob nc N nt j : Nat} {P : Nat → List CodeLaw.Ins} {cnt : Nat → Nat} {vs : Nat → Value}
theorem Py.keep (h : Py w0 w k s Ob nc N nt P cnt vs j) (hb : Below w.heap.size w w') : Py w0 w' k s Ob nc N nt P cnt vs j := ⟨h.sv.keep hb, h.tz, h.ntj, h.cj, h.ob.keep hb, h.tO, h.tv⟩
/-- behind a turn, ahead of what is written down: the kernel is one ahead -/
structure Pz1 (w0 w : World) (k : KC) (s : KSt) (Ob nc N nt : Nat) (P : Nat → List CodeLaw.Ins) (cnt : Nat → Nat) (vs : Nat → Value) (j p : Nat) : Prop where
  sv : Sv w0 w k s
  tz : Tz s nc N nt P (bmp cnt p)
  ntj : nt ≤ j + 1
  cj : ∀ p, cnt p ≤ j
  ob : OutB w0.heap.size w Ob N P cnt vs
  tO : s.tag Ob = 0
  tv : ∀ i b, i < N → (vs i).ownBlock = some b → s.tag b = 0
theorem Py.turn {p : Nat} (h : Py w0 w k s Ob nc N nt P cnt vs j) (ho : TOut w w' k s nc N nt P cnt p) : ∃ s' nt', Pz1 w0 w' k s' Ob nc N nt' P cnt vs j p := by
  obtain ⟨s', nt', h1, hg, hz⟩ := ho
  have tag : ∀ b, s.tag b = 0 → b < w.heap.size → s'.tag b = 0 := fun b h0 hb => by
    cases Nat.eq_zero_or_pos (s'.tag b) with
    | inl e => exact e
    | inr e =>
      rcases hg.far b (by omega) with q | q
      · exact absurd h0 q
      · omega
  exact ⟨s', nt', h.sv.kg hg, hz, by have := h.ntj; omega, h.cj, h.ob.upd hg.up (fun e => e h.tO) (fun i b hi e q => q (h.tv i b hi e)), tag _ h.tO h.ob.olt, fun i b hi e => tag _ (h.tv i b hi e) ((h.ob.ls i hi).lt b e).2⟩
theorem Pz1.keep {p : Nat} (h : Pz1 w0 w k s Ob nc N nt P cnt vs j p) (hb : Below w.heap.size w w') : Pz1 w0 w' k s Ob nc N nt P cnt vs j p := ⟨h.sv.keep hb, h.tz, h.ntj, h.cj, h.ob.keep hb, h.tO, h.tv⟩
/-- nobody had the turn -/
theorem Pz1.none (h : Pz1 w0 w k s Ob nc N nt P cnt vs j 0) : Py w0 w k s Ob nc N nt P cnt vs (j + 1) :=
  ⟨h.sv, h.tz.congr (fun p p1 p2 => (if_neg (by omega) : bmp cnt 0 p = cnt p).symm), h.ntj, fun p => by have := h.cj p; omega, h.ob, h.tO, h.tv⟩
/-- what is written down -/
theorem Pz1.more {i : Nat} {w1 w2 : World} {v' : Value} (h : Pz1 w0 w k s Ob nc N nt P cnt vs j (i + 1)) (hi : i < N) (hb : Below w.heap.size w w1) (hg : w1.grownBy w2 (vs i).ownBlock) (hl : RgL w0.heap.size w2 v' (P (i + 1)) (cnt (i + 1) + 1)) (hd : v'.ownBlock = (vs i).ownBlock ∨ ∃ g, w.heap.size ≤ g ∧ v'.ownBlock = some g) (h1 : v'.oneCell' = true) :
    Py w0 (w2.setCell ⟨Ob, i, .none⟩ v') k s Ob nc N nt P (bmp cnt (i + 1)) (fun j => if j = i then v' else vs j) (j + 1) := by
  obtain ⟨ho, hu⟩ := h.ob.more hi hb hg hl hd h1
  have hS : ∀ k, (k = Ob ∨ (vs i).ownBlock = some k) → s.tag k = 0 ∧ w0.heap.size ≤ k := fun k e => by
    rcases e with e | e
    · rw [e]; exact ⟨h.tO, h.ob.lt⟩
    · exact ⟨h.tv i k hi e, ((h.ob.ls i hi).lt k e).1⟩
  refine ⟨⟨h.sv.kt.upd hu (fun b hb e => hb (hS b e).1), h.sv.lo, h.sv.hb.trans (hu.toBelow h.sv.hb.size (fun b hb e => by have := (hS b e).2; omega))⟩, h.tz, h.ntj, fun p => ?_, ho, h.tO, fun q b hq e => ?_⟩
  · unfold bmp
    have := h.cj p
    split <;> omega
  · by_cases z : q = i
    · have e : v'.ownBlock = some b := by rw [if_pos z] at e; exact e
      rcases hd with y | ⟨g, y1, y2⟩
      · rw [y] at e; exact h.tv i b hi e
      · rw [y2] at e; injection e with e; exact h.sv.kt.tz b (by omega)
    · have e : (vs q).ownBlock = some b := by rw [if_neg z] at e; exact e
      exact h.tv q b hq e
end
end Go.Proofs.YtnbhohaphmilmaaGreatDoor
namespace Go.Proofs.YtnbhohaphmilmaaGreatDoor
open Go.RowKit
set_option linter.unusedVariables false
set_option linter.unusedSimpArgs false
def bsG (ps : Array (Nat × Value)) : Sem Value := Instr.buildSlice 40 1 ps
theorem bsG_eq (ps : Array (Nat × Value)) : Instr.buildSlice 40 1 ps = bsG ps := rfl
theorem bsG_run (w : World) (g : CpuLaw.G) : (bsG #[(0, .agg (CpuLaw.cellsA g))]).run Tryz.prog w = .ok (.slice (some ⟨w.heap.size, 0, none⟩) 1 1) (w.alloc (.cells (CpuLaw.cellsA g) 36)) := by kernel_rfl
attribute [local go_sem ↓] mkO_eq appR_eq ld_rg st_rg st_tr bsG_eq
set_option maxRecDepth 100000 in
set_option maxHeartbeats 4000000 in
theorem play_is (w : World) (a0 : Int) {eb B : Nat} {lv pv : Value} {ls : List (List CodeLaw.Ins)} {xs : List Value} {pl : List Int} (hpl : At (Value.int .i64) 0 w pv pl) (hc : w.cell? ⟨eb, 0, none⟩ = some lv) (hpg : PgL B w lv ls xs) (hl4 : ls.length ≤ 4) (hpo : ∀ l ∈ ls, PrgOk l) :
    Calls Tryz.prog 5 #[.int .i64 a0, pv, .pointer (some ⟨eb, 0, none⟩)] w fun e w' => ∃ Ob cnt vs, e = .returned (.tuple #[.slice (some ⟨Ob, 0, none⟩) (ls.length + 1) (ls.length + 1), .bool true]) ∧ OutB w.heap.size w' Ob (ls.length + 1) (prgs ls) cnt vs ∧ Below w.heap.size w w' := by
  obtain ⟨sp0, cp, rfl, hlc, hcm, hcell⟩ := hpl
  have hcp63 : (cp : Int) ≤ 9223372036854775807 := by have := hcm; unfold maxLen at this; omega
  have HCELL := Lib.hid hcell
  obtain ⟨L, hL⟩ : ∃ L, L = pl.length := ⟨_, rfl⟩
  rw [← hL]
  have HLL := Lib.hid hL
  have hLc : L ≤ cp := by omega
  have HL4 := Lib.hid hl4
  have HPO := Lib.hid hpo
  have HPG := Lib.hid hpg
  have HEB := Lib.hid (World.block_lt_of_cell? w _ hc)
  have HC := Lib.hid hc
  obtain ⟨lp, lcap, rfl⟩ := own_form hpg.own
  obtain ⟨N, hN⟩ : ∃ N, N = ls.length + 1 := ⟨_, rfl⟩
  have HNN : Hid (N = ls.length + 1 ∧ N ≤ 8) := Lib.hid ⟨hN, by omega⟩
  have N8 : (N : Int) ≤ 8 := by omega
  have NL : (ls.length : Int) + 1 = N := by omega
  have NL2 : (ls.length : Int) ≤ 4 := by omega
  rw [← hN]
  clear hcell hcm hlc hL hl4 hpo hpg hN
  go_enter Tryz.func5, Tryz.ntmps5
  go_upto_region 2 with (go_at_call 6; refine (rest_is _ _ (by decide) (by decide)).mono ?_; rintro e1 w1 ⟨cc, (hcc : (cc : Int) < 4), rfl, rfl⟩)
  obtain ⟨nc, hnc⟩ : ∃ nc : Nat, (1 : Int) + cc = nc := ⟨1 + cc, by omega⟩
  rw [hnc]
  have HNC : Hid (1 ≤ nc ∧ nc ≤ 4) := Lib.hid ⟨by omega, by omega⟩
  have n4 : (nc : Int) ≤ 4 := by omega
  clear hcc hnc
  have HRK := Lib.hid (rvkA_is (w := w1) HNC.out.1 HNC.out.2 (n := ls.length) (by have := HL4.out; omega) (Pg := prgs ls) rfl (prgs_any HPO.out) rfl (fun i l e => prgs_at (i := i + 1) e) HPG.out)
  go_upto_region 3 with (go_at_call 7; refine HRK.out.mono ?_; rintro e4 w4 ⟨k, s4, rfl, hs4, hk4, hm4⟩)
  clear hc
  have hc4 := (hs4.hb.cell (p := ⟨eb, 0, none⟩) HEB.out).trans HC.out
  have HS4 := Lib.hid hs4
  have HT4 : Hid (Tz s4 nc N 0 (prgs ls) (fun _ => 0)) := Lib.hid (by rw [HNN.out.1]; exact hk4.tz hm4 (by omega) (by have := HL4.out; omega) HNC.out.1 HNC.out.2)
  clear hs4 hk4 hm4 HRK
  obtain ⟨w5, hmk, hob, hb5⟩ := mkO_run w4 N HNN.out.2 (B := w1.heap.size) HS4.out.hb.size (prgs ls)
  go_upto_region 6 with fail
  have HP0 : Hid (∃ (s : KSt) (nt : Nat) (cnt : Nat → Nat) (vs : Nat → Value), Py w1 w5 k s w4.heap.size nc N nt (prgs ls) cnt vs 0) := Lib.hid ⟨s4, 0, _, _, HS4.out.keep hb5, HT4.out, Nat.le_refl _, fun _ => Nat.le_refl _, hob, HS4.out.kt.tz _ (Nat.le_refl _), fun i b hi e => by cases e⟩
  have HEB5 := Lib.hid hc4
  clear hmk hob hb5 hc4 HS4 HT4
  generalize w4.heap.size = Ob at *
  obtain ⟨m, hm⟩ : ∃ m, m = min L 150 := ⟨_, rfl⟩
  go_cut [35, 36, 37] from 31 to 37 (fun s41 s42 s43 wx => s41 = .slice sp0 m cp ∧ s42 = .int .i64 m ∧ s43 = .int .i64 0 ∧ wx = w5)
  case first =>
    rcases Nat.lt_or_ge 150 L with h2 | h2
    · have i1 : (150 : Int) < L := by omega
      have i2 : (150 : Int) ≤ cp := by omega
      go_wp2_with fail
      all_goals (go_meet; case rel => exact ⟨by congr 1; omega, by congr 1; omega, rfl, rfl⟩)
    · have i1 : ¬ (150 : Int) < L := by omega
      have i2 : (L : Int) ≤ cp := by omega
      go_wp2_with fail
      all_goals (go_meet; case rel => exact ⟨by congr 1; omega, by congr 1; omega, rfl, rfl⟩)
  case rest =>
    obtain ⟨rfl, rfl, rfl, hwc⟩ := hcut
    subst hwc
    obtain ⟨v1, rfl⟩ : ∃ x : World, x = wc := ⟨_, rfl⟩
    have HM : Hid (m ≤ 150 ∧ m ≤ pl.length) := Lib.hid ⟨by omega, by have := HLL.out; omega⟩
    have hm150 : (m : Int) ≤ 150 := by omega
    clear hm
    go_wp2_with fail
    go_loopw [37] (fun jv wr => ∃ j : Nat, j ≤ m ∧ jv = .int .i64 j ∧ Hid (∃ (s : KSt) (nt : Nat) (cnt : Nat → Nat) (vs : Nat → Value), Py w1 wr k s Ob nc N nt (prgs ls) cnt vs j)) (fun jv _ => m - (intOf jv).toNat)
    case atStart => exact ⟨0, Nat.zero_le _, rfl, HP0⟩
    case round =>
      clear HP0
      obtain ⟨j, hj0, rfl, HA⟩ := hrel
      by_cases hj : j < m
      · have j1 : (j : Int) < m := by omega
        obtain ⟨s, nt, cnt, vs, hpy⟩ := HA.out
        obtain ⟨pb, po, rfl, hx⟩ := int_cell (cap := cp) HCELL.out (i := j) (by have := HM.out; omega)
        obtain ⟨x, hx⟩ := hx wr hpy.sv.hb
        have HJ : Hid (j < m) := Lib.hid hj
        have HPY := Lib.hid hpy
        have HTN := Lib.hid (rvturn_is hpy.sv.kt hpy.tz (prgs_any HPO.out) (by have := HL4.out; have := HNN.out.1; omega) HNC.out.1 HNC.out.2 (by have := hpy.ntj; have := HM.out; omega) x)
        clear hj hj0 hpy HA
        go_upto_region 9 with fail
        clear hx
        go_upto_region 10 with (go_at_call 8; refine HTN.out.mono ?_; rintro e5 w5 ⟨p, hpN, rfl, hto⟩)
        obtain ⟨s5, nt5, hz5⟩ := HPY.out.turn hto
        have HZ5 := Lib.hid hz5
        have hl5 := (hz5.sv.hb.cell (p := ⟨eb, 0, none⟩) HEB.out).trans HC.out
        have hd1 : decide ((p : Int) < 0) = false := decide_eq_false (by omega)
        have hd2 : decide ((N : Int) < (p : Int)) = false := decide_eq_false (by omega)
        have hd3 : ¬ (p : Int) < 0 := by omega
        have hd4 : ¬ (N : Int) < (p : Int) := by omega
        clear hto hz5 HTN HPY
        rcases Nat.eq_zero_or_pos p with rfl | hp0
        · have HA6 := Lib.hid HZ5.out.none
          go_wp2_with fail
          go_roundw
          case rel => exact ⟨j + 1, HJ.out, by go_num, Lib.hid ⟨s5, nt5, _, _, HA6.out⟩⟩
          case measure => have := HJ.out; simp [intOf]; omega
        · have HRG := Lib.hid (tregs_is HZ5.out.sv.kt HZ5.out.tz (p := p) hp0 hpN)
          obtain ⟨g, hg⟩ : ∃ g, g = (runP (prgs ls p) (bmp cnt p p)).g := ⟨_, rfl⟩
          rw [← hg] at HRG
          have HGD := Lib.hid hg
          have HG1 := Lib.hid (CpuLaw.cellsA_one g)
          have HG10 : Hid ((CpuLaw.cellsA g).size = 10) := Lib.hid rfl
          clear hg
          have HST := Lib.hid (fun w6 => st0_new w6 (T := 36) (c := rgZ) (cs := CpuLaw.cellsA g) (by rw [HG10.out]; rfl) (by rw [HG10.out]; kernel_rfl) HG1.out)
          go_upto_region 16 with (go_at_call 9; refine HRG.out.mono ?_; rintro e6 w6 ⟨rfl, hb6⟩; have hst := HST.out w6; simp only [rgZ] at hst; have HB6 := Lib.hid hb6; clear hb6)
          obtain ⟨i, hpi⟩ : ∃ i : Nat, p = i + 1 := ⟨p - 1, by omega⟩
          subst hpi
          have HIN : Hid (i < N) := Lib.hid (by omega)
          have hB7 : Below w5.heap.size w5 (w6.alloc (.cells (CpuLaw.cellsA g) 36)).drew := (HB6.out.trans ((Go.Joins.below_alloc1 w6 _).mono HB6.out.size)).drew
          have hz7 := HZ5.out.keep hB7
          have l1 := ((row_new w6 36 (CpuLaw.cellsA g)).drew).ld0 Tryz.underlying36 rfl (by rw [HG10.out]; kernel_rfl)
          have hbmp : bmp cnt (i + 1) (i + 1) = cnt (i + 1) + 1 := if_pos rfl
          have hg : g = (runP (prgs ls (i + 1)) (cnt (i + 1) + 1)).g := by rw [← hbmp]; exact HGD.out
          obtain ⟨C, hrow, hc1, hc2⟩ := hz7.ob.row
          obtain ⟨vp, vc, hve⟩ := own_form (hz7.ob.ls i HIN.out)
          have hcv := (hrow.cell i).trans (hc2 i HIN.out)
          rw [hve] at hcv
          have hbs := bsG_run (w6.alloc (.cells (CpuLaw.cellsA g) 36)).drew g
          obtain ⟨np, nc2, w9, hap, hrl, hgr, hdd⟩ := (hz7.ob.ls i HIN.out).push hz7.sv.hb.size (by have := hz7.cj (i + 1); have := HJ.out; have := HM.out; omega)
          rw [← hg, hve] at hap
          have hap : (appR #[.slice vp (cnt (i + 1)) vc, .slice (some ⟨(w6.alloc (.cells (CpuLaw.cellsA g) 36)).heap.size, 0, none⟩) 1 1]).run Tryz.prog ((w6.alloc (.cells (CpuLaw.cellsA g) 36)).alloc (.cells (CpuLaw.cellsA g) 36)).drew = .ok (.slice np (cnt (i + 1) + 1) nc2) w9 := hap
          have hcv2 : ((w6.alloc (.cells (CpuLaw.cellsA g) 36)).alloc (.cells (CpuLaw.cellsA g) 36)).drew.cell? ⟨Ob, i, none⟩ = some (.slice vp (cnt (i + 1)) vc) := ((Go.Joins.below_alloc1 _ _).cell (p := ⟨Ob, i, none⟩) hrow.lt).trans hcv
          have hsz7 : (w6.alloc (.cells (CpuLaw.cellsA g) 36)).heap.size = w6.heap.size + 1 := size_alloc1 _ _
          rw [hsz7] at hap
          have i5 : IntKind.i64.wrap (i : Int) = i := IntWalk.i64_in _ (by have := HIN.out; omega)
          have hrow9 : Row w9 Ob 40 C := (hrow.keep (Go.Joins.below_alloc1 _ _)).kept hgr (fun e => hz7.ob.ne i HIN.out e.symm)
          have hf9 : w9.frozen? ⟨Ob, i, none⟩ = false := hrow9.fz i
          have hs9 : w9.cell? ⟨Ob, i, none⟩ = some (.slice vp (cnt (i + 1)) vc) := by rw [hrow9.cell, hc2 i HIN.out, hve]
          have hpy := hz7.more HIN.out (Go.Joins.below_alloc1 _ (.cells (CpuLaw.cellsA (runP (prgs ls (i + 1)) (cnt (i + 1) + 1)).g) 36)) hgr hrl hdd rfl
          have HP9 := Lib.hid hpy
          have y1 : IntKind.i64.wrap (((i + 1 : Nat) : Int) - 1) = (i : Int) := by rw [show ((i + 1 : Nat) : Int) - 1 = (i : Int) by omega]; exact IntWalk.i64_in _ (by have := HIN.out; omega)
          have y2 : wrap64 (((i + 1 : Nat) : Int) - 1) = (i : Int) := by rw [show ((i + 1 : Nat) : Int) - 1 = (i : Int) by omega]; exact IntWalk.wrap64_in _ (by have := HIN.out; omega)
          have i0 : 0 ≤ (i : Int) := Int.natCast_nonneg i
          have i1 : (i : Int) < N := by have := HIN.out; omega
          have i2 : ¬ (i : Int) < 0 := by omega
          have i3 : ¬ (N : Int) ≤ i := by omega
          have i4 : i < N := HIN.out
          clear hz7 hrow hc1 hc2 hrl hgr hdd hrow9 hpy hve hg hB7 hbmp hst HRG HST hd1 hd2 hd3 hd4 hp0 hpN
          generalize CpuLaw.cellsA g = A at *
          go_region
          go_wp2_with fail
          go_roundw
          case rel => exact ⟨j + 1, HJ.out, by go_num, Lib.hid ⟨s5, nt5, _, _, HP9.out⟩⟩
          case measure => have := HJ.out; simp [intOf]; omega
      · obtain rfl : j = m := by omega
        obtain ⟨s, nt, cnt, vs, hpy⟩ := HA.out
        have HPY := Lib.hid hpy
        clear hpy HA
        go_wp2_with fail
        go_ret2
        exact ⟨Ob, cnt, vs, rfl, HPY.out.ob, HPY.out.sv.hb⟩
end Go.Proofs.YtnbhohaphmilmaaGreatDoor
namespace Go.Proofs.YtnbhohaphmilmaaGreatDoor
open Go.RowKit
set_option linter.unusedVariables false
set_option linter.unusedSimpArgs false
theorem PgL.keep {B : Nat} {w w' : World} {v : Value} {ls : List (List CodeLaw.Ins)} {xs : List Value} (h : PgL B w v ls xs) (hb : Below w.heap.size w w') : PgL B w' v ls xs :=
  ⟨owns_keep h.own hb, h.len, fun i x hx => by
    obtain ⟨l, b, c, h1, h2, h3, h5, h6⟩ := h.one i x hx
    exact ⟨l, b, c, h1, h2, Nat.lt_of_lt_of_le h3 hb.size, h5.keep hb, h6⟩⟩
/-- an entry of one process's list -/
theorem RgL.at {B : Nat} {w : World} {v : Value} {l : List CodeLaw.Ins} {n j : Nat} (h : RgL B w v l n) (hj : j < n) : ∃ g c, v = .slice (some ⟨g, 0, none⟩) n c ∧ n ≤ 9223372036854775807 ∧ ∀ w', Below w.heap.size w w' → (ldR 36 (.pointer (some ⟨g, j * 10, none⟩))).run Tryz.prog w' = .ok (.agg (CpuLaw.cellsA (runP l (j + 1)).g)) w' := by
  rcases id h.2 with ⟨e, hn⟩ | ⟨g, cap, cur, rfl, hB, hg, hle, hm, hs, ht⟩
  · omega
  · have hr : Row w g 36 cur := hg
    refine ⟨g, cap, rfl, by unfold maxLen at hm; omega, fun w' hb => ?_⟩
    have hj2 : (j + 1) * 10 ≤ cap * 10 := Nat.mul_le_mul_right _ (by omega)
    rw [(hr.keep hb).ld (o := j * 10) (n := 10) (by omega) Tryz.underlying36 rfl (by kernel_rfl)]
    congr 2
    apply Array.ext_getElem?
    intro i
    by_cases hi : i < 10
    · rw [Array.getElem?_extract, if_pos (by omega)]
      have h1 := rowsP_get l n hj hi
      rw [← h1, ← ht, List.getElem?_take, if_pos (by have : (j + 1) * 10 ≤ n * 10 := Nat.mul_le_mul_right _ hj; omega), Array.getElem?_toList]
    · rw [Array.getElem?_eq_none (by simp; omega), Array.getElem?_eq_none (by show 10 ≤ i; omega)]
/-- the list at a place -/
theorem OutB.get {B Ob N : Nat} {w : World} {P : Nat → List CodeLaw.Ins} {cnt : Nat → Nat} {vs : Nat → Value} (h : OutB B w Ob N P cnt vs) {i : Nat} (hi : i < N) : ∃ p c, vs i = .slice p (cnt (i + 1)) c ∧ w.cell? ⟨Ob, i, none⟩ = some (.slice p (cnt (i + 1)) c) := by
  obtain ⟨C, hr, h1, h2⟩ := h.row
  obtain ⟨p, c, e⟩ := own_form (h.ls i hi)
  exact ⟨p, c, e, by rw [hr.cell, h2 i hi, e]⟩
end Go.Proofs.YtnbhohaphmilmaaGreatDoor
namespace Go.Proofs.YtnbhohaphmilmaaGreatDoor
open Go.RowKit
set_option linter.unusedVariables false
set_option linter.unusedSimpArgs false
def neR (x y : Value) : Sem Value := binOp .neq 36 x y
theorem neR_eq (x y : Value) : binOp .neq 36 x y = neR x y := rfl
attribute [local go_sem ↓] ld_rg neR_eq
set_option maxRecDepth 100000 in
set_option maxHeartbeats 4000000 in
theorem two_any (w : World) (a0 a1 : Int) {qv sv tv : Value} {pss : List (List Int)} {sl tl : List Int} (hps : At2 w qv pss) (hs : At (Value.int .i64) 0 w sv sl) (ht : At (Value.int .i64) 0 w tv tl) : Calls Tryz.prog 3 #[.int .i64 a0, .int .i64 a1, qv, sv, tv] w fun e w' => e = .returned (.bool true) ∧ Below w.heap.size w w' := by
  have HPS := Lib.hid (fun w1 (hb : w1 = w) => rvprogs_is w1 (pv := qv) (pss := pss) (by rw [hb]; exact hps))
  have HS := Lib.hid hs
  have HT := Lib.hid ht
  have hmf : ∀ (fn : Fn) (first cap : Array Value) (w : World), (Instr.makeFunc fn first cap).run Tryz.prog w = .ok (.func fn first cap) w := fun _ _ _ _ => rfl
  clear hps hs ht
  go_enter Tryz.func3, Tryz.ntmps3
  go_upto_region 2 with (go_at_call 4; refine (HPS.out _ rfl).mono ?_; rintro e2 w2 ⟨v, ls, xs, rfl, hl4, hpo, hpg, hb2⟩; obtain ⟨lp, lcap, rfl⟩ := own_form hpg.own)
  have HL4 := Lib.hid hl4
  have HPO := Lib.hid hpo
  have HB3 : Hid (Below w.heap.size w (w2.alloc (.cells #[.slice lp ls.length lcap] 24))) := Lib.hid (hb2.trans ((Go.Joins.below_alloc1 w2 _).mono hb2.size))
  have hc3 : (w2.alloc (.cells #[.slice lp ls.length lcap] 24)).cell? ⟨w2.heap.size, 0, none⟩ = some (.slice lp ls.length lcap) := cells_new w2 [.slice lp ls.length lcap] 24 0 _ rfl
  have HC3 := Lib.hid hc3
  have HPG3 := Lib.hid (hpg.keep (Go.Joins.below_alloc1 w2 (.cells #[.slice lp ls.length lcap] 24)))
  clear hl4 hpo hpg hb2 HPS hc3
  generalize w2.alloc (.cells #[.slice lp ls.length lcap] 24) = w3 at *
  generalize w2.heap.size = eb at *
  have HEB := Lib.hid (World.block_lt_of_cell? w3 _ HC3.out)
  have HP1 := Lib.hid (play_is w3 a0 (at_keep HS.out HB3.out) HC3.out HPG3.out HL4.out HPO.out)
  obtain ⟨N, hN⟩ : ∃ N, N = ls.length + 1 := ⟨_, rfl⟩
  have HNN : Hid (N = ls.length + 1 ∧ N ≤ 8) := Lib.hid ⟨hN, by have := HL4.out; omega⟩
  have N8 : (N : Int) ≤ 8 := by have := HL4.out; omega
  rw [← hN] at HP1
  clear hN
  go_upto_region 4 with (go_at_call 5; refine HP1.out.mono ?_; rintro e4 w4 ⟨Ob1, cnt1, vs1, rfl, ho1, hb4⟩)
  have HO1 := Lib.hid ho1
  have HB4 := Lib.hid hb4
  have HP2 := Lib.hid (play_is w4 a1 (at_keep HT.out (HB3.out.trans (hb4.mono HB3.out.size))) ((hb4.cell (p := ⟨eb, 0, none⟩) HEB.out).trans HC3.out) (HPG3.out.keep hb4) HL4.out HPO.out)
  rw [← HNN.out.1] at HP2
  clear ho1 hb4 HP1
  go_upto_region 5 with (go_at_call 5; refine HP2.out.mono ?_; rintro e5 w5 ⟨Ob2, cnt2, vs2, rfl, ho2, hb5⟩)
  have HO2 := Lib.hid ho2
  have HO3 := Lib.hid (HO1.out.keep hb5)
  have HB5 : Hid (Below w.heap.size w w5) := Lib.hid ((HB3.out.trans (HB4.out.mono HB3.out.size)).trans (hb5.mono (Nat.le_trans HB3.out.size HB4.out.size)))
  clear ho2 hb5 HP2 HO1 HB4
  go_wp2_with fail
  go_loopw [44] (fun iv wr => ∃ i : Nat, i ≤ N ∧ iv = .int .i64 i ∧ Hid (Below w5.heap.size w5 wr)) (fun iv _ => N - (intOf iv).toNat)
  case atStart => exact ⟨0, Nat.zero_le _, rfl, Lib.hid (Below.refl _ _)⟩
  case round =>
    obtain ⟨i, hi0, rfl, HB⟩ := hrel
    by_cases hi : i < N
    · have i1 : (i : Int) < N := by omega
      have i0 : 0 ≤ (i : Int) := Int.natCast_nonneg i
      have i2 : ¬ (i : Int) < 0 := by omega
      have i3 : ¬ (N : Int) ≤ i := by omega
      have HI : Hid (i < N) := Lib.hid hi
      obtain ⟨p1, c1, e1, x1⟩ := (HO3.out.keep HB.out).get hi
      obtain ⟨p2, c2, e2, x2⟩ := (HO2.out.keep HB.out).get hi
      obtain ⟨n1, hn1⟩ : ∃ n1, n1 = cnt1 (i + 1) := ⟨_, rfl⟩
      obtain ⟨n2, hn2⟩ : ∃ n2, n2 = cnt2 (i + 1) := ⟨_, rfl⟩
      rw [← hn1] at e1 x1
      rw [← hn2] at e2 x2
      have HX := Lib.hid (And.intro e1 e2)
      have HN12 : Hid (n1 = cnt1 (i + 1) ∧ n2 = cnt2 (i + 1)) := Lib.hid ⟨hn1, hn2⟩
      obtain ⟨m, hm⟩ : ∃ m, m = min n1 n2 := ⟨_, rfl⟩
      clear e1 e2 hn1 hn2 hi hi0
      go_upto_region 10 with fail
      go_cut [44, 57, 58] from 44 to 77 (fun s44 s57 s58 wx => s44 = .int .i64 i ∧ s57 = .int .i64 m ∧ s58 = .int .i64 0 ∧ wx = wr.drew)
      case first =>
        rcases Nat.lt_or_ge n2 n1 with h2 | h2
        · have j1 : (n2 : Int) < n1 := by omega
          have j2 : ¬ (n1 : Int) < n2 := by omega
          have j3 : (m : Int) = n2 := by omega
          go_region
          all_goals go_wp2_with fail
          all_goals (go_meet; case rel => exact ⟨rfl, by congr 1; omega, rfl, rfl⟩)
        · have j1 : ¬ (n2 : Int) < n1 := by omega
          have j3 : (m : Int) = n1 := by omega
          go_region
          all_goals go_wp2_with fail
          all_goals (go_meet; case rel => exact ⟨rfl, by congr 1; omega, rfl, rfl⟩)
      case rest =>
        obtain ⟨rfl, rfl, rfl, hwc⟩ := hcut
        have HB7 : Hid (Below w5.heap.size w5 wc) := Lib.hid (by rw [hwc]; exact HB.out.drew)
        obtain ⟨v7, rfl⟩ : ∃ x : World, x = wc := ⟨_, rfl⟩
        have HM12 : Hid (m ≤ n1 ∧ m ≤ n2) := Lib.hid ⟨by omega, by omega⟩
        clear hwc HB x1 x2 hm
        go_wp2_with fail
        go_loopw [58] (fun jv wr => ∃ j : Nat, j ≤ m ∧ jv = .int .i64 j ∧ Hid (Below w5.heap.size w5 wr)) (fun jv _ => m - (intOf jv).toNat)
        case atStart => exact ⟨0, Nat.zero_le _, rfl, HB7⟩
        case round =>
          clear HB7
          obtain ⟨j, hj0, rfl, HB⟩ := hrel
          by_cases hj : j < m
          · have m1 : (j : Int) < m := by omega
            have m0 : 0 ≤ (j : Int) := Int.natCast_nonneg j
            have m2 : ¬ (j : Int) < 0 := by omega
            have hjn1 : j < n1 := by have := HM12.out; omega
            have hjn2 : j < n2 := by have := HM12.out; omega
            have m3 : (j : Int) < n1 := by omega
            have m4 : (j : Int) < n2 := by omega
            have m5 : ¬ (n1 : Int) ≤ j := by omega
            have m6 : ¬ (n2 : Int) ≤ j := by omega
            have HJ : Hid (j < m) := Lib.hid hj
            have HR1 := Lib.hid (((HO3.out.keep HB.out).ls i HI.out).at (j := j) (by rw [← HN12.out.1]; exact hjn1))
            have HR2 := Lib.hid (((HO2.out.keep HB.out).ls i HI.out).at (j := j) (by rw [← HN12.out.2]; exact hjn2))
            obtain ⟨g1, d1, f1, t1, r1⟩ := HR1.out
            obtain ⟨g2, d2, f2, t2, r2⟩ := HR2.out
            obtain ⟨p1, c1, f3, x1⟩ := (HO3.out.keep HB.out).get HI.out
            obtain ⟨p2, c2, f4, x2⟩ := (HO2.out.keep HB.out).get HI.out
            rw [f1] at f3
            rw [f2] at f4
            injection f3 with f3 _ f5
            injection f4 with f4 _ f6
            subst f3 f4 f5 f6
            rw [← HN12.out.1] at x1
            rw [← HN12.out.2] at x2
            obtain ⟨g, hg⟩ : ∃ g, g = (runP (prgs ls (i + 1)) (j + 1)).g := ⟨_, rfl⟩
            rw [← hg] at r1 r2
            have hne := fun w => CpuLaw.neq61 g w
            simp only [neR_eq] at hne
            have l1 := r1 wr (Below.refl _ _)
            have l2 := r2 wr (Below.refl _ _)
            have l3 := fun n : Nat => r1 _ (below_drewN (Below.refl _ _) n)
            have l4 := fun n : Nat => r2 _ (below_drewN (Below.refl _ _) n)
            have HB8 : Hid (∀ n, Below w5.heap.size w5 (wr.drewN n)) := Lib.hid fun n => below_drewN HB.out n
            have jb : (j : Int) + 1 ≤ 9223372036854775807 := by have := HN12.out.1; omega
            have jw : wrap64 ((j : Int) + 1) = (j : Int) + 1 := IntWalk.wrap64_in _ (by omega)
            clear r1 r2 f1 f2 t1 t2 HR1 HR2 hg hj hj0 hjn1 hjn2 HB
            generalize CpuLaw.cellsA g = A at *
            go_upto_region 13 with fail
            go_quiet (fail)
            go_wp2_with fail
            go_roundw
            case rel => exact ⟨j + 1, HJ.out, by go_num, HB8.out _⟩
            case measure => have := HJ.out; simp [intOf]; omega
          · obtain rfl : j = m := by omega
            go_wp2_with fail
            go_roundw
            case rel => exact ⟨i + 1, HI.out, by go_num, HB⟩
            case measure => have := HI.out; simp [intOf]; omega
    · obtain rfl : i = N := by omega
      go_wp2_with fail
      go_ret
      exact ⟨rfl, HB5.out.trans (HB.out.mono HB5.out.size)⟩
end Go.Proofs.YtnbhohaphmilmaaGreatDoor
