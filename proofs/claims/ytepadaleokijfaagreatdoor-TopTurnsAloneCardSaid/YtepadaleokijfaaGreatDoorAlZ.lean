/- The walk of ringtop.TopTurnsAlone. -/
import Derived.Test.YtepadaleokijfaaGreatDoorRegEq
namespace Go.Proofs.YtepadaleokijfaaGreatDoor
open Go.RowKit
set_option linter.unusedVariables false
set_option linter.unusedSimpArgs false
/-- the programs of all processes -/
def prgs (ls : List (List CodeLaw.Ins)) (p : Nat) : List CodeLaw.Ins := (loopL :: ls).getD (p - 1) loopL
theorem prgs_any {ls : List (List CodeLaw.Ins)} (h : ∀ l ∈ ls, PrgOk l) (p : Nat) : PrgA (prgs ls p) := by
  unfold prgs
  rw [List.getD_eq_getElem?_getD]
  cases e : (loopL :: ls)[p - 1]? with
  | none => exact loop_any
  | some l =>
    rcases List.mem_cons.1 (List.mem_of_getElem? e) with q | q
    · show PrgA l
      rw [q]; exact loop_any
    · exact (h l q).any
theorem prgs_at {ls : List (List CodeLaw.Ins)} {i : Nat} {l : List CodeLaw.Ins} (h : (loopL :: ls)[i]? = some l) : prgs ls (i + 1) = l := by
  unfold prgs
  rw [List.getD_eq_getElem?_getD, show i + 1 - 1 = i by omega, h]
  rfl
/-- memories and registers while they are laid -/
structure Lay (w : World) (Mb Rb N i : Nat) (P : Nat → List CodeLaw.Ins) : Prop where
  mr : MemR w Mb N (fun j => if j < i then bpP (P (j + 1)) else fun _ => 0)
  rb : RegB w Rb N (fun j => if j < i then ⟨fun _ => 0, 0, 1⟩ else CpuLaw.zeroG)
theorem Lay.bk {w : World} {Mb Rb N : Nat} {P : Nat → List CodeLaw.Ins} (h : Lay w Mb Rb N N P) (hP : ∀ p, PrgA (P p)) (ne : Mb ≠ Rb) : Bk w Mb Rb N P (fun _ => 0) := by
  refine ⟨?_, ?_, ne⟩
  · have hm := h.mr.mem
    refine ⟨hm.lt, fun j a hj ha => ?_, hm.fz⟩
    rw [hm.c j a hj ha]
    show some (Value.int .u8 (((if j < N then bpP (P (j + 1)) else fun _ => 0) a : Nat) : Int)) = some (Value.int .u8 ((CpuLaw.bt (bpP (P (j + 1))) (fun _ => 0) a : Nat) : Int))
    rw [if_pos hj, bp_bt (hP (j + 1)).len.2]
  · obtain ⟨C, h1, h2, h3⟩ := h.rb
    refine ⟨C, h1, h2, fun i j hi hj => ?_⟩
    rw [h3 i j hi hj]
    show (CpuLaw.cellsA (if i < N then (⟨fun _ => 0, 0, 1⟩ : CpuLaw.G) else CpuLaw.zeroG))[j]? = _
    rw [if_pos hi]
    rfl
theorem Lay.next {w : World} {Mb Rb N i : Nat} {P : Nat → List CodeLaw.Ins} {l : List CodeLaw.Ins} (hP : P (i + 1) = l)
    (hm : MemR w Mb N (fup (fun j => if j < i then bpP (P (j + 1)) else fun _ => 0) i (fun a => if a < (progB l).length then (((progB l)[a]?).getD 0).toNat else (fun j => if j < i then bpP (P (j + 1)) else fun _ => 0) i a)))
    (hr : RegB w Rb N (fup (fun j => if j < i then ⟨fun _ => 0, 0, 1⟩ else CpuLaw.zeroG) i ⟨((fun j => if j < i then (⟨fun _ => 0, 0, 1⟩ : CpuLaw.G) else CpuLaw.zeroG) i).r, ((fun j => if j < i then (⟨fun _ => 0, 0, 1⟩ : CpuLaw.G) else CpuLaw.zeroG) i).pc, 1⟩)) : Lay w Mb Rb N (i + 1) P := by
  constructor
  · have e : fup (fun j => if j < i then bpP (P (j + 1)) else fun _ => 0) i (fun a => if a < (progB l).length then (((progB l)[a]?).getD 0).toNat else (fun j => if j < i then bpP (P (j + 1)) else fun _ => 0) i a) = fun j => if j < i + 1 then bpP (P (j + 1)) else fun _ => 0 := by
      funext j
      by_cases q : j = i
      · subst q
        rw [fup_same, if_pos (by omega), hP]
        funext a
        show (if a < (progB l).length then (((progB l)[a]?).getD 0).toNat else (if j < j then bpP (P (j + 1)) else fun _ => 0) a) = bpP l a
        rw [if_neg (Nat.lt_irrefl j)]
        rfl
      · rw [fup_off _ _ q]
        show (if j < i then _ else _) = if j < i + 1 then _ else _
        by_cases z : j < i
        · rw [if_pos z, if_pos (by omega)]
        · rw [if_neg z, if_neg (by omega)]
    rw [e] at hm
    exact hm
  · have e : fup (fun j => if j < i then (⟨fun _ => 0, 0, 1⟩ : CpuLaw.G) else CpuLaw.zeroG) i ⟨((fun j => if j < i then (⟨fun _ => 0, 0, 1⟩ : CpuLaw.G) else CpuLaw.zeroG) i).r, ((fun j => if j < i then (⟨fun _ => 0, 0, 1⟩ : CpuLaw.G) else CpuLaw.zeroG) i).pc, 1⟩ = fun j => if j < i + 1 then ⟨fun _ => 0, 0, 1⟩ else CpuLaw.zeroG := by
      funext j
      by_cases q : j = i
      · subst q
        rw [fup_same, if_pos (by omega)]
        show (⟨(if j < j then _ else CpuLaw.zeroG).r, (if j < j then _ else CpuLaw.zeroG).pc, 1⟩ : CpuLaw.G) = _
        rw [if_neg (Nat.lt_irrefl j)]
        rfl
      · rw [fup_off _ _ q]
        show (if j < i then _ else _) = if j < i + 1 then _ else _
        by_cases z : j < i
        · rw [if_pos z, if_pos (by omega)]
        · rw [if_neg z, if_neg (by omega)]
    rw [e] at hr
    exact hr
theorem Sv.ownA {w0 w w' : World} {k : KC} {s : KSt} {b : Nat} (h : Sv w0 w k s) (hu : Upd (fun j => j = b) w w') (h0 : w0.heap.size ≤ b) (ht : s.tag b = 0) : Sv w0 w' k s :=
  ⟨h.kt.upd hu (fun j hj e => hj (by rw [e]; exact ht)), h.lo, h.hb.trans (hu.toBelow h.hb.size (fun j hj e => by omega))⟩
def neR (x y : Value) : Sem Value := binOp .neq 41 x y
theorem neR_eq (x y : Value) : binOp .neq 41 x y = neR x y := rfl
attribute [local go_sem ↓] apIP_eq mkM_eq mkR_eq copyB_eq ld_rg st_rg st_tr neR_eq
set_option maxRecDepth 100000 in
set_option maxHeartbeats 4000000 in
theorem alone_any (w : World) (a0 : Int) {qv pv : Value} {pss : List (List Int)} {pl : List Int} (hps : At2 w qv pss) (hpl : At (Value.int .i64) 0 w pv pl) : Calls Tryz.prog 3 #[.int .i64 a0, qv, pv] w fun e w' => e = .returned (.bool true) ∧ Below w.heap.size w w' := by
  obtain ⟨sp0, cp, rfl, hlc, hcm, hcell⟩ := hpl
  have hcp63 : (cp : Int) ≤ 9223372036854775807 := by have := hcm; unfold maxLen at this; omega
  have HCELL := Lib.hid hcell
  obtain ⟨L, hL⟩ : ∃ L, L = pl.length := ⟨_, rfl⟩
  rw [← hL]
  have HLL := Lib.hid hL
  have hLc : L ≤ cp := by omega
  have HPS := Lib.hid (fun w1 (hb : w1 = w) => rvprogs_is w1 (pv := qv) (pss := pss) (by rw [hb]; exact hps))
  clear hcell hcm hlc hL hps
  go_enter Tryz.func3, Tryz.ntmps3
  go_upto_region 2 with (go_at_call 4; refine (rest_is _ _ (by decide) (by decide)).mono ?_; rintro e1 w1 ⟨cc, (hcc : (cc : Int) < 4), rfl, rfl⟩)
  obtain ⟨nc, hnc⟩ : ∃ nc : Nat, (1 : Int) + cc = nc := ⟨1 + cc, by omega⟩
  rw [hnc]
  have HNC : Hid (1 ≤ nc ∧ nc ≤ 4) := Lib.hid ⟨by omega, by omega⟩
  have n4 : (nc : Int) ≤ 4 := by omega
  clear hcc hnc
  go_upto_region 3 with (go_at_call 5; refine (HPS.out _ rfl).mono ?_; rintro e2 w2 ⟨v, ls, xs, rfl, hl4, hpo, hpg, hb2⟩)
  have HL4 := Lib.hid hl4
  have HPO := Lib.hid hpo
  have HPG := Lib.hid hpg
  have HB2 := Lib.hid hb2
  have HRK := Lib.hid (rvkA_is (w := w2) HNC.out.1 HNC.out.2 (n := ls.length) (by omega) (Pg := prgs ls) rfl (prgs_any hpo) rfl (fun i l e => prgs_at (i := i + 1) e) hpg)
  obtain ⟨N, hN⟩ : ∃ N, N = ls.length + 1 := ⟨_, rfl⟩
  have HNN : Hid (N = ls.length + 1 ∧ N ≤ 8) := Lib.hid ⟨hN, by omega⟩
  have N8 : (N : Int) ≤ 8 := by omega
  clear hl4 hpo hpg hb2 HPS hN
  go_upto_region 6 with (go_at_call 6; refine HRK.out.mono ?_; rintro e4 w4 ⟨k, s4, rfl, hs4, hk4, hm4⟩)
  have HS4 := Lib.hid hs4
  have HT4 := Lib.hid (hk4.tz hm4 (by omega) (by have := HL4.out; omega) HNC.out.1 HNC.out.2)
  have HPG4 := Lib.hid (show PgL w1.heap.size w4 v ls xs from ⟨owns_keep HPG.out.own hs4.hb, HPG.out.len, fun i x hx => by
    obtain ⟨l, b, c, h1, h2, h3, h5, h6⟩ := HPG.out.one i x hx
    exact ⟨l, b, c, h1, h2, Nat.lt_of_lt_of_le h3 hs4.hb.size, h5.keep hs4.hb, h6⟩⟩)
  clear hs4 hk4 hm4 HRK HPG
  go_upto_region 7 with (go_at_call 7; refine (loop_is _).mono ?_; rintro e5 w5 ⟨b5, hb50, hb51, rfl, hi5, hb5⟩; have HPG5 : Hid (PgL w1.heap.size w5 v ls xs) := Lib.hid ⟨owns_keep HPG4.out.own hb5, HPG4.out.len, fun i x hx => (by
      obtain ⟨l, b, c, h1, h2, h3, h5, h6⟩ := HPG4.out.one i x hx
      exact ⟨l, b, c, h1, h2, Nat.lt_of_lt_of_le h3 hb5.size, h5.keep hb5, h6⟩)⟩; obtain ⟨p6, c6, w6, hap, hpg6, hb6⟩ := HPG5.out.cons (l := loopL) (b3 := b5) (c3 := 2) (by have := HL4.out; omega) hb51 hi5 (Nat.le_trans HB2.out.size (Nat.le_trans HS4.out.hb.size hb5.size)); simp only [show loopL.length = 2 from rfl, ← HNN.out.1] at hap hpg6; have HPG6 := Lib.hid hpg6; have HB56 := Lib.hid (And.intro hb5 hb6); clear hpg6 hb5 hb6 hi5)
  clear HPG5 HPG4
  obtain ⟨w7, hmM, hmr, hb7⟩ := mkM_run w6 N HNN.out.2
  have HMR := Lib.hid hmr
  have HB7 := Lib.hid hb7
  obtain ⟨w8, hmR, hrb, hb8⟩ := mkR_run w7 N HNN.out.2
  have HRB := Lib.hid hrb
  have HB8 := Lib.hid hb8
  clear hmr hb7 hrb hb8
  go_upto_region 9 with fail
  clear hap hmM hmR
  have HB6 := Lib.hid ((HB7.out).trans (HB8.out.mono HB7.out.size))
  have HS6 := Lib.hid ((HS4.out.keep HB56.out.1).keep HB56.out.2)
  have HL0 : Hid (Lay w8 w6.heap.size w7.heap.size N 0 (prgs ls)) := Lib.hid ⟨by
    have := HMR.out.upd (Upd.below HB8.out (S := fun _ => False)) (fun e => e)
    have e : (fun (j : Nat) => if j < 0 then bpP (prgs ls (j + 1)) else fun _ => 0) = fun _ _ => 0 := by funext j; exact if_neg (Nat.not_lt_zero _)
    rw [e]; exact this, by
    have e : (fun (j : Nat) => if j < 0 then (⟨fun _ => 0, 0, 1⟩ : CpuLaw.G) else CpuLaw.zeroG) = fun _ => CpuLaw.zeroG := by funext j; exact if_neg (Nat.not_lt_zero _)
    rw [e]; exact HRB.out⟩
  have HMB : Hid (w6.heap.size ≤ w6.heap.size ∧ w6.heap.size < w8.heap.size ∧ w6.heap.size ≤ w7.heap.size ∧ w7.heap.size < w8.heap.size ∧ w6.heap.size ≠ w7.heap.size) := Lib.hid (by
    have h1 := HMR.out.lt
    have h2 := HRB.out.lt
    have h3 := HB8.out.size
    exact ⟨Nat.le_refl _, by omega, by omega, h2, by omega⟩)
  clear HMR HRB HB7 HB8
  obtain ⟨u6, hu6⟩ : ∃ u6, u6 = w6.heap.size := ⟨_, rfl⟩
  obtain ⟨Mb, hMb⟩ : ∃ Mb, Mb = w6.heap.size := ⟨_, rfl⟩
  have HMB2 : Hid (w6.heap.size ≤ Mb ∧ Mb < w8.heap.size ∧ w6.heap.size ≤ w7.heap.size ∧ w7.heap.size < w8.heap.size ∧ Mb ≠ w7.heap.size) := by rw [hMb]; exact HMB
  rw [← hMb] at HL0 ⊢
  clear HMB hMb hu6 u6
  generalize w7.heap.size = Rb at *
  obtain ⟨b0, hb0, hcell⟩ : ∃ b0, p6 = some ⟨b0, 0, none⟩ ∧ ∀ (i : Nat) u, (.slice (some ⟨b5, 0, none⟩) 2 2 :: xs)[i]? = some u → w6.cell? ⟨b0, i, none⟩ = some u := by
    have hown := HPG6.out.own
    have hlen : (loopL :: ls).length = N := by rw [List.length_cons]; exact HNN.out.1.symm
    rcases id hown.2 with ⟨e, hn⟩ | ⟨g, c', cur, e, _⟩
    · rw [hlen] at hn; have := HNN.out.1; omega
    · have e : (.slice p6 N c6 : Value) = .slice (some ⟨g, 0, none⟩) (loopL :: ls).length c' := e
      injection e with e _ _
      subst e
      refine ⟨g, rfl, fun i u hu => ?_⟩
      have := hown.cells (g := g) rfl i u hu
      rw [Addr.add_lit, Nat.zero_add] at this
      exact this
  subst hb0
  have HCL := Lib.hid hcell
  clear hcell
  go_wp2_with fail
  go_loopw [50] (fun iv wr => ∃ i : Nat, i ≤ N ∧ iv = .int .i64 i ∧ Hid (Lay wr Mb Rb N i (prgs ls)) ∧ Hid (Below w6.heap.size w6 wr) ∧ Hid (w8.heap.size ≤ wr.heap.size)) (fun iv _ => N - (intOf iv).toNat)
  case atStart => exact ⟨0, Nat.zero_le _, rfl, HL0, HB6, Lib.hid (Nat.le_refl _)⟩
  case round =>
    clear HL0 HB6
    obtain ⟨i, hi0, rfl, HL, HB, HZ⟩ := hrel
    by_cases hi : i < N
    · have i1 : (i : Int) < N := by omega
      have HI : Hid (i < N) := Lib.hid hi
      obtain ⟨x, hx⟩ : ∃ x, (.slice (some ⟨b5, 0, none⟩) 2 2 :: xs : List Value)[i]? = some x := ⟨_, List.getElem?_eq_getElem (by have h1 := HPG6.out.len; have h2 := HNN.out.1; rw [h1, List.length_cons]; omega)⟩
      obtain ⟨l, bl, cl, hl, rfl, hbl, hil, -⟩ := HPG6.out.one i x hx
      have hcx := (HB.out.cell (World.block_lt_of_cell? w6 _ (HCL.out i _ hx))).trans (HCL.out i _ hx)
      have hP : prgs ls (i + 1) = l := prgs_at hl
      have hPA : PrgA l := by rw [← hP]; exact prgs_any HPO.out _
      have HW := Lib.hid (words_is (hil.keep HB.out) hPA.encs (by have := hPA.len.2; omega))
      have HPP := Lib.hid (And.intro hP hPA)
      clear hx hl hbl hil hP hPA hi hi0
      go_upto_region 12 with fail
      clear hcx
      go_upto_region 13 with (go_at_call 8; refine HW.out.mono ?_; rintro e9 w9 ⟨u, rfl, ho9, hb9⟩)
      obtain ⟨bu, cu, rfl, hcu, hbu, hcell⟩ := ob_cells ho9 (by rw [progB_len]; have := HPP.out.2.len.1; omega)
      have HB9 := Lib.hid (HB.out.trans (hb9.mono HB.out.size))
      have HL9 : Hid (Lay w9 Mb Rb N i (prgs ls)) := Lib.hid ⟨HL.out.mr.upd (Upd.below hb9 (S := fun _ => False)) (fun e => e), HL.out.rb.upd (Upd.below hb9 (S := fun _ => False)) (fun e => e)⟩
      obtain ⟨w10, hcp, hmr, hu10⟩ := HL9.out.mr.copy (i := i) (L := progB l) (bl := bu) (cap := cu) HI.out hcell (by rw [progB_len]; have := HPP.out.2.len.2; omega) (fun y hy => (progB_pos HPP.out.2 y hy).1)
      have hrb := (HL9.out.rb.upd hu10 (fun e => HMB2.out.2.2.2.2 e.symm))
      obtain ⟨c9, f9⟩ := hrb.cellR HI.out
      have HN10 := Lib.hid (hrb.ring HI.out 1)
      have HM10 := Lib.hid hmr
      have HU10 := Lib.hid hu10
      have HZ9 : Hid (w8.heap.size ≤ w10.heap.size) := Lib.hid (Nat.le_trans HZ.out (Nat.le_trans hb9.size hu10.size))
      clear ho9 hb9 hcell hmr hu10 hrb HL HB HW hcu hbu
      go_upto_region 16 with fail
      clear hcp
      go_upto_region 17 with fail
      have HL11 : Hid (Lay (w10.setCell ⟨Rb, i * 10 + 9, none⟩ (.int .i64 1)) Mb Rb N (i + 1) (prgs ls)) := Lib.hid (Lay.next (l := l) HPP.out.1 (HM10.out.upd (Upd.set _ _ rfl) (S := fun k => k = Rb) HMB2.out.2.2.2.2) HN10.out)
      have HB11 : Hid (Below w6.heap.size w6 (w10.setCell ⟨Rb, i * 10 + 9, none⟩ (.int .i64 1))) := Lib.hid ((HB9.out.trans (HU10.out.toBelow HB9.out.size (fun j hj e => by have := HMB2.out.1; omega))).setCell HMB2.out.2.2.1 _)
      have HZ11 : Hid (w8.heap.size ≤ (w10.setCell ⟨Rb, i * 10 + 9, none⟩ (.int .i64 1)).heap.size) := Lib.hid (by simpa [World.setCell] using HZ9.out)
      generalize w10.setCell ⟨Rb, i * 10 + 9, none⟩ (.int .i64 1) = w11 at *
      go_wp2_with fail
      go_roundw
      case rel => exact ⟨i + 1, HI.out, by go_num, HL11, HB11, HZ11⟩
      case measure => have := HI.out; simp [intOf]; omega
    · obtain rfl : i = N := by omega
      have HAS : Hid (As w2 wr k s4 Mb Rb nc i 0 (prgs ls) (fun _ => 0) (fun _ => 0)) := Lib.hid ⟨HS6.out.keep HB.out, by rw [HNN.out.1]; exact HT4.out, HS6.out.kt.tz _ HMB2.out.1, HS6.out.kt.tz _ HMB2.out.2.2.1, Nat.le_trans HS6.out.hb.size HMB2.out.1, Nat.le_trans HS6.out.hb.size HMB2.out.2.2.1, HL.out.bk (prgs_any HPO.out) HMB2.out.2.2.2.2⟩
      have HPR := Lib.hid (prgs_any HPO.out)
      clear HB HZ HL HS6 HS4 HT4 HPG6 HCL HMB2 HB56
      go_upto_region 18 with fail
      obtain ⟨m, hm⟩ : ∃ m, m = min L 200 := ⟨_, rfl⟩
      go_cut [77, 78, 79] from 73 to 79 (fun s41 s42 s43 wx => s41 = .slice sp0 m cp ∧ s42 = .int .i64 m ∧ s43 = .int .i64 0 ∧ wx = wr)
      case first =>
        rcases Nat.lt_or_ge 200 L with h2 | h2
        · have i1 : (200 : Int) < L := by omega
          have i2 : (200 : Int) ≤ cp := by omega
          go_wp2_with fail
          all_goals (go_meet; case rel => exact ⟨by congr 1; omega, by congr 1; omega, rfl, rfl⟩)
        · have i1 : ¬ (200 : Int) < L := by omega
          have i2 : (L : Int) ≤ cp := by omega
          go_wp2_with fail
          all_goals (go_meet; case rel => exact ⟨by congr 1; omega, by congr 1; omega, rfl, rfl⟩)
      case rest =>
        obtain ⟨rfl, rfl, rfl, hwc⟩ := hcut
        subst hwc
        obtain ⟨v1, rfl⟩ : ∃ x : World, x = wc := ⟨_, rfl⟩
        have HM : Hid (m ≤ 200 ∧ m ≤ pl.length) := Lib.hid ⟨by omega, by have := HLL.out; omega⟩
        have hm200 : (m : Int) ≤ 200 := by omega
        clear hm
        have HA0 : Hid (∃ (s : KSt) (nt : Nat) (cnt : Nat → Nat), nt ≤ 0 ∧ As w2 v1 k s Mb Rb nc i nt (prgs ls) cnt cnt) := Lib.hid ⟨s4, 0, _, Nat.le_refl _, HAS.out⟩
        clear HAS
        go_wp2_with fail
        go_loopw [79] (fun jv wr => ∃ j : Nat, j ≤ m ∧ jv = .int .i64 j ∧ Hid (∃ (s : KSt) (nt : Nat) (cnt : Nat → Nat), nt ≤ j ∧ As w2 wr k s Mb Rb nc i nt (prgs ls) cnt cnt)) (fun jv _ => m - (intOf jv).toNat)
        case atStart => exact ⟨0, Nat.zero_le _, rfl, HA0⟩
        case round =>
          clear HA0
          obtain ⟨j, hj0, rfl, HA⟩ := hrel
          by_cases hj : j < m
          · have j1 : (j : Int) < m := by omega
            obtain ⟨s, nt, cnt, hnt, has⟩ := HA.out
            obtain ⟨pb, po, rfl, hx⟩ := int_cell (cap := cp) HCELL.out (i := j) (by have := HM.out; omega)
            have hb1 : Below w1.heap.size w1 wr := HB2.out.trans (has.sv.hb.mono HB2.out.size)
            obtain ⟨x, hx⟩ := hx wr hb1
            have HJ : Hid (j < m) := Lib.hid hj
            have HAS := Lib.hid has
            have HNT := Lib.hid hnt
            have HTN := Lib.hid (rvturn_is has.sv.kt has.tz HPR.out (by have := HL4.out; have := HNN.out.1; omega) HNC.out.1 HNC.out.2 (by have := HM.out; omega) x)
            clear hj hj0 has hnt hb1 HA
            go_upto_region 21 with fail
            clear hx
            go_upto_region 22 with (go_at_call 9; refine HTN.out.mono ?_; rintro e5 w5 ⟨p, hpN, rfl, hto⟩)
            obtain ⟨s5, nt5, hn5, has5⟩ := HAS.out.turn hto
            have HA5 := Lib.hid has5
            have HN5 : Hid (nt5 ≤ j + 1) := Lib.hid (by have := HNT.out; omega)
            have hd1 : decide ((p : Int) < 0) = false := decide_eq_false (by omega)
            have hd2 : decide ((i : Int) < (p : Int)) = false := decide_eq_false (by omega)
            have hd3 : ¬ (p : Int) < 0 := by omega
            have hd4 : ¬ (i : Int) < (p : Int) := by omega
            clear hto has5 hn5 HTN HAS
            rcases Nat.eq_zero_or_pos p with rfl | hp0
            · have HA6 := Lib.hid (HA5.out.zero rfl)
              go_wp2_with fail
              go_roundw
              case rel => exact ⟨j + 1, HJ.out, by go_num, Lib.hid ⟨s5, nt5, _, HN5.out, HA6.out⟩⟩
              case measure => have := HJ.out; simp [intOf]; omega
            · go_upto_region 25 with fail
              obtain ⟨q, hq⟩ : ∃ q : Nat, (p : Int) = (q : Int) + 1 := ⟨p - 1, by omega⟩
              have hpq : p = q + 1 := by omega
              have hqN : q < i := by omega
              have i1 : (q : Int) < i := by omega
              have y1 : IntKind.i64.wrap ((p : Int) - 1) = (q : Int) := by rw [hq, show (q : Int) + 1 - 1 = q by omega]; exact IntWalk.i64_in _ (by omega)
              have y2 : wrap64 ((p : Int) - 1) = (q : Int) := by rw [hq, show (q : Int) + 1 - 1 = q by omega]; exact IntWalk.wrap64_in _ (by omega)
              have i0 : 0 ≤ (q : Int) := Int.natCast_nonneg q
              have i2 : ¬ (q : Int) < 0 := by omega
              have i3 : ¬ (i : Int) ≤ q := by omega
              have i4 : q < i := hqN
              have HQN : Hid (q < i ∧ p = q + 1) := Lib.hid ⟨hqN, hpq⟩
              have HST0 := Lib.hid (fun (wx : World) hM => astep_is HA5.out HPR.out hqN (wx := wx) hM)
              have HRB := Lib.hid HA5.out.bk.rg
              obtain ⟨S0, hSd⟩ : ∃ S0 : Nat → Prop, S0 = fun k => k = Mb := ⟨_, rfl⟩
              have HLD : Hid (∀ wx, Upd S0 w5 wx → (ldR 41 (.pointer (some ⟨Rb, q * 10, none⟩))).run Tryz.prog wx = .ok (.agg (CpuLaw.cellsA (runP (prgs ls (q + 1)) (cnt (q + 1))).g)) wx) := Lib.hid fun wx hu => (HRB.out.upd hu (by rw [hSd]; exact fun e => HA5.out.bk.ne e.symm)).ld hqN
              have HG3 : Hid (RgA (CpuLaw.cellsA (runP (prgs ls (q + 1)) (cnt (q + 1) + 1)).g)) := Lib.hid ⟨rfl, CpuLaw.cellsA_one _⟩
              obtain ⟨Q, hQd⟩ : ∃ Q : World → Prop, Q = fun w => CpuLaw.MemA w Mb i (fun i => CpuLaw.bt (bpP (prgs ls (i + 1))) (runP (prgs ls (i + 1)) (cnt (i + 1))).d) := ⟨_, rfl⟩
              obtain ⟨Q', hQd'⟩ : ∃ Q' : World → Prop, Q' = fun w => CpuLaw.MemA w Mb i (fun j => CpuLaw.bt (bpP (prgs ls (j + 1))) (runP (prgs ls (j + 1)) (bmp cnt (q + 1) (j + 1))).d) := ⟨_, rfl⟩
              have HMbl : Hid (Mb < w5.heap.size) := Lib.hid HA5.out.bk.mm.lt
              have HQ2 : Hid (Q w5) := Lib.hid (by rw [hQd]; exact HA5.out.bk.mm)
              have HQK : Hid (∀ w w', Q w → Below w.heap.size w w' → Q w') := Lib.hid (by rw [hQd]; exact fun w w' h hb => h.keep hb)
              have HQK' : Hid (∀ w w', Q' w → Below w.heap.size w w' → Q' w') := Lib.hid (by rw [hQd']; exact fun w w' h hb => h.keep hb)
              have HQO' : Hid (∀ w w' d, Q' w → w5.heap.size ≤ d → CpuLaw.Off d w w' → Q' w') := Lib.hid (by rw [hQd']; exact fun w w' d h hd ho => h.keepB (ho.keep Mb h.lt (by have := HMbl.out; omega)) ho.size)
              have HS0L : Hid (∀ k, S0 k → k < w5.heap.size) := Lib.hid (by rw [hSd]; exact fun k e => by rw [e]; exact HMbl.out)
              have HST : Hid (∀ wx, Q wx → Calls Tryz.prog 10 #[.agg (CpuLaw.cellsA (runP (prgs ls (q + 1)) (cnt (q + 1))).g), .iface 50 (.agg #[.pointer (some ⟨Mb, q * 1024, none⟩)])] wx fun e w' => e = .returned (.tuple #[.agg (CpuLaw.cellsA (runP (prgs ls (q + 1)) (cnt (q + 1) + 1)).g), .agg #[.int .i64 0, .int .u32 0]]) ∧ Upd S0 wx w' ∧ Q' w') := Lib.hid (by rw [hQd, hQd', hSd]; exact HST0.out)
              have HQD := Lib.hid hQd'
              have HSD := Lib.hid hSd
              have HGD : Hid (∃ x, x = CpuLaw.cellsA (runP (prgs ls (q + 1)) (cnt (q + 1) + 1)).g) := Lib.hid ⟨_, rfl⟩
              obtain ⟨G3, hG3⟩ : ∃ G3, G3 = CpuLaw.cellsA (runP (prgs ls (q + 1)) (cnt (q + 1) + 1)).g := ⟨_, rfl⟩
              have HG3D := Lib.hid hG3
              rw [← hG3] at HST HG3
              obtain ⟨G0, hG0⟩ : ∃ G0, G0 = CpuLaw.cellsA (runP (prgs ls (q + 1)) (cnt (q + 1))).g := ⟨_, rfl⟩
              rw [← hG0] at HST HLD
              clear hQd hQd' hSd hG3 hG0 HST0 HGD hpq hqN hq hp0 hd1 hd2 hd3 hd4 hpN
              have HSA : Hid (∀ wx, Upd S0 w5 wx → (Upd S0 w5 wx ∧ (ldR 41 (.pointer (some ⟨Rb, q * 10, none⟩))).run Tryz.prog wx = .ok (.agg G0) wx)) := Lib.hid fun wx hu => ⟨hu, HLD.out wx hu⟩
              have HDr : Hid (∀ wx n, (Upd S0 w5 wx ∧ (ldR 41 (.pointer (some ⟨Rb, q * 10, none⟩))).run Tryz.prog wx = .ok (.agg G0) wx) → _) := Lib.hid fun wx n h => HSA.out (wx.drewN n) (h.1.trans (Upd.drewN _ _))
              have HAl : Hid (∀ wx o, (Upd S0 w5 wx ∧ (ldR 41 (.pointer (some ⟨Rb, q * 10, none⟩))).run Tryz.prog wx = .ok (.agg G0) wx) → _) := Lib.hid fun wx o h => HSA.out (wx.alloc o) (h.1.trans (Upd.alloc _ _))
              have HN0 : Hid (∀ j, w5.heap.size ≤ j → ¬ S0 j) := Lib.hid fun j hj e => by have := HS0L.out j e; omega
              have HU5 : Hid (∀ w9, Upd S0 ((w5.alloc (.cells rgZ 41)).alloc (.cells trZ 45)).drew w9 → Duo w9 w5.heap.size (w5.heap.size + 1)) := Lib.hid fun w9 hu => (Duo.two1 w5).far (W' := w9) (S := S0) ((Upd.drew _).trans hu) (HN0.out _ (Nat.le_refl _)) (HN0.out _ (Nat.le_succ _))
              have HU6 : Hid (∀ w9, Upd S0 ((w5.alloc (.cells trZ 45)).alloc (.cells rgZ 41)).drew w9 → Duo w9 (w5.heap.size + 1) w5.heap.size) := Lib.hid fun w9 hu => (Duo.two2 w5).far (W' := w9) (S := S0) ((Upd.drew _).trans hu) (HN0.out _ (Nat.le_succ _)) (HN0.out _ (Nat.le_refl _))
              have HU3 : Hid (∀ w9, Upd S0 (w5.alloc (.cells rgZ 41)).drew w9 → Duo (w9.alloc (.cells trZ 45)) w5.heap.size w9.heap.size) := Lib.hid fun w9 hu => ⟨((row_new w5 _ _).drew.upd hu (HN0.out _ (Nat.le_refl _))).alloc _, row_new _ _ _, by have := hu.size; have e : ∀ o, (w5.alloc o).drew.heap.size = w5.heap.size + 1 := fun o => size_alloc1 w5 o; rw [e] at this; omega⟩
              have HU4 : Hid (∀ w9, Upd S0 (w5.alloc (.cells trZ 45)).drew w9 → Duo (w9.alloc (.cells rgZ 41)) w9.heap.size w5.heap.size) := Lib.hid fun w9 hu => ⟨row_new _ _ _, ((row_new w5 _ _).drew.upd hu (HN0.out _ (Nat.le_refl _))).alloc _, by have := hu.size; have e : ∀ o, (w5.alloc o).drew.heap.size = w5.heap.size + 1 := fun o => size_alloc1 w5 o; rw [e] at this; omega⟩
              have HD5 : Hid (∀ w9, Upd S0 ((w5.alloc (.cells rgZ 41)).alloc (.cells trZ 45)).drew w9 → _) := Lib.hid fun w9 hu => (HU5.out w9 hu).eqs HG3.out
              have HD6 : Hid (∀ w9, Upd S0 ((w5.alloc (.cells trZ 45)).alloc (.cells rgZ 41)).drew w9 → _) := Lib.hid fun w9 hu => (HU6.out w9 hu).eqs HG3.out
              have HD3 : Hid (∀ w9, Upd S0 (w5.alloc (.cells rgZ 41)).drew w9 → _) := Lib.hid fun w9 hu => (HU3.out w9 hu).eqs HG3.out
              have HD4 : Hid (∀ w9, Upd S0 (w5.alloc (.cells trZ 45)).drew w9 → _) := Lib.hid fun w9 hu => (HU4.out w9 hu).eqs HG3.out
              have D1 := fun wx => ((Duo.two1 wx).eqs HG3.out).1
              have D2 := fun wx => ((Duo.two1 wx).eqs HG3.out).2.1
              have D3 := fun wx => ((Duo.two1 wx).eqs HG3.out).2.2.1
              have D4 := fun wx => ((Duo.two1 wx).eqs HG3.out).2.2.2
              have D5 := fun wx => ((Duo.two2 wx).eqs HG3.out).1
              have D6 := fun wx => ((Duo.two2 wx).eqs HG3.out).2.1
              have D7 := fun wx => ((Duo.two2 wx).eqs HG3.out).2.2.1
              have D8 := fun wx => ((Duo.two2 wx).eqs HG3.out).2.2.2
              simp only [rgZ, trZ] at D1 D2 D3 D4 D5 D6 D7 D8 HD3 HD4 HD5 HD6 HU3 HU4 HU5 HU6
              have HRw : Hid (∀ wx b C, (w5.heap.size ≤ b) → (Upd S0 w5 wx ∧ (ldR 41 (.pointer (some ⟨Rb, q * 10, none⟩))).run Tryz.prog wx = .ok (.agg G0) wx) → _) := Lib.hid fun wx b C hb h => HSA.out (wx.setRow b C) (CpuLaw.Off.upd h.1 (CpuLaw.Off.setRow wx b C) hb)
              have HD0 := Lib.hid (HSA.out w5.drew (Upd.drew _))
              have HD00 := Lib.hid (HSA.out w5 (Upd.refl _ _))
              have HDA := Lib.hid (fun o => HSA.out (w5.alloc o).drew ((Upd.alloc _ _).trans (Upd.drew _)))
              have HDB := Lib.hid (fun o o' => HSA.out ((w5.alloc o).alloc o').drew (((Upd.alloc _ _).trans (Upd.alloc _ _)).trans (Upd.drew _)))
              have HP0 : Hid (Q w5.drew) := Lib.hid (HQK.out _ _ HQ2.out (Below.refl _ _).drew)
              have HPA : Hid (∀ o, Q (w5.alloc o).drew) := Lib.hid (fun o => HQK.out _ _ (HQK.out _ _ HQ2.out (Go.Joins.below_alloc1 _ _)) (Below.refl _ _).drew)
              have HPB : Hid (∀ o o', Q ((w5.alloc o).alloc o').drew) := Lib.hid (fun o o' => HQK.out _ _ (HQK.out _ _ (HQK.out _ _ HQ2.out (Go.Joins.below_alloc1 _ _)) (Go.Joins.below_alloc1 _ _)) (Below.refl _ _).drew)
              have HZA : Hid (∀ wx o, Q' wx → Q' (wx.alloc o)) := Lib.hid fun wx o h => HQK'.out _ _ h (Go.Joins.below_alloc1 _ _)
              have HZD : Hid (∀ wx n, Q' wx → Q' (wx.drewN n)) := Lib.hid fun wx n h => HQK'.out _ _ h (below_drewN (Below.refl _ _) n)
              have HZE : Hid (∀ wx, Q' wx → Q' wx.drew) := Lib.hid fun wx h => HQK'.out _ _ h (Below.refl _ _).drew
              have HZR : Hid (∀ wx b C, w5.heap.size ≤ b → Q' wx → Q' (wx.setRow b C)) := Lib.hid fun wx b C hb h => HQO'.out _ _ b h hb (CpuLaw.Off.setRow wx b C)
              go_cut [20, 21] (fun a9 a10 wx => ∃ b9 b10, a9 = .pointer (some ⟨b9, 0, none⟩) ∧ a10 = .pointer (some ⟨b10, 0, none⟩) ∧ w5.heap.size ≤ b9 ∧ w5.heap.size ≤ b10 ∧ b9 ≠ b10 ∧ Row wx b9 41 G3 ∧ Row wx b10 45 #[.int .i64 0, .int .u32 0] ∧ Upd S0 w5 wx ∧ Q' wx)
              case first =>
                go_region_held3 (fun wx => Upd S0 w5 wx ∧ (ldR 41 (.pointer (some ⟨Rb, q * 10, none⟩))).run Tryz.prog wx = .ok (.agg G0) wx)
                  (first | assumption | (with_reducible exact HD0.out) | (with_reducible exact HDA.out _) | (with_reducible exact HDB.out _ _) | (with_reducible exact HDr.out _ _ ‹_›) | (with_reducible exact HAl.out _ _ ‹_›) | (with_reducible refine HRw.out _ _ _ ?_ ‹_›; first | exact Nat.le_refl _ | exact Nat.le_succ _ | assumption | (exact Nat.le_succ_of_le ‹_›)) | go_keep)
                  (first | (go_at_call 10; refine (HST.out _ (by first | exact HP0.out | exact HPA.out _ | exact HPB.out _ _)).mono ?_; rintro e9 w9 ⟨rfl, hu9, hq9⟩; have hS := HSA.out w9 ((‹Upd S0 w5 _ ∧ _›).1.trans hu9); have hz9 : w5.heap.size ≤ w9.heap.size := hS.1.size; first | (have hD := HU5.out w9 hu9; have f1 := (HD5.out w9 hu9).1; have f2 := (HD5.out w9 hu9).2.1; have f3 := (HD5.out w9 hu9).2.2.1; have f4 := (HD5.out w9 hu9).2.2.2) | (have hD := HU6.out w9 hu9; have f1 := (HD6.out w9 hu9).1; have f2 := (HD6.out w9 hu9).2.1; have f3 := (HD6.out w9 hu9).2.2.1; have f4 := (HD6.out w9 hu9).2.2.2) | (have hD := HU3.out w9 hu9; have f1 := (HD3.out w9 hu9).1; have f2 := (HD3.out w9 hu9).2.1; have f3 := (HD3.out w9 hu9).2.2.1; have f4 := (HD3.out w9 hu9).2.2.2) | (have hD := HU4.out w9 hu9; have f1 := (HD4.out w9 hu9).1; have f2 := (HD4.out w9 hu9).2.1; have f3 := (HD4.out w9 hu9).2.2.1; have f4 := (HD4.out w9 hu9).2.2.2) | skip))
                all_goals go_wp2
                all_goals go_meet
                all_goals have hF := (‹Upd S0 w5 _ ∧ _›)
                all_goals first
                  | exact ⟨_, _, rfl, rfl, hz9, Nat.le_succ_of_le hz9, by omega, (Duo.two1 w9).fin _ _ |>.1, (Duo.two1 w9).fin _ _ |>.2, hF.1, by repeat (first | exact hq9 | exact hz9 | exact Nat.le_refl _ | exact Nat.le_succ _ | exact Nat.le_succ_of_le hz9 | (with_reducible refine HZR.out _ _ _ ?_ ?_) | (with_reducible refine HZA.out _ _ ?_) | (with_reducible refine HZD.out _ _ ?_) | (with_reducible refine HZE.out _ ?_))⟩
                  | exact ⟨_, _, rfl, rfl, Nat.le_succ_of_le hz9, hz9, by omega, (Duo.two2 w9).fin _ _ |>.1, (Duo.two2 w9).fin _ _ |>.2, hF.1, by repeat (first | exact hq9 | exact hz9 | exact Nat.le_refl _ | exact Nat.le_succ _ | exact Nat.le_succ_of_le hz9 | (with_reducible refine HZR.out _ _ _ ?_ ?_) | (with_reducible refine HZA.out _ _ ?_) | (with_reducible refine HZD.out _ _ ?_) | (with_reducible refine HZE.out _ ?_))⟩
                  | exact ⟨_, _, rfl, rfl, Nat.le_refl _, hz9, hD.ne, (hD.fin _ _).1, (hD.fin _ _).2, hF.1, by repeat (first | exact hq9 | exact hz9 | exact Nat.le_refl _ | exact Nat.le_succ _ | exact Nat.le_succ_of_le hz9 | (with_reducible refine HZR.out _ _ _ ?_ ?_) | (with_reducible refine HZA.out _ _ ?_) | (with_reducible refine HZD.out _ _ ?_) | (with_reducible refine HZE.out _ ?_))⟩
                  | exact ⟨_, _, rfl, rfl, hz9, Nat.le_refl _, hD.ne, (hD.fin _ _).1, (hD.fin _ _).2, hF.1, by repeat (first | exact hq9 | exact hz9 | exact Nat.le_refl _ | exact Nat.le_succ _ | exact Nat.le_succ_of_le hz9 | (with_reducible refine HZR.out _ _ _ ?_ ?_) | (with_reducible refine HZA.out _ _ ?_) | (with_reducible refine HZD.out _ _ ?_) | (with_reducible refine HZE.out _ ?_))⟩
                  | exact ⟨_, _, rfl, rfl, Nat.le_refl _, Nat.le_succ _, hD.ne, (hD.fin _ _).1, (hD.fin _ _).2, hF.1, by repeat (first | exact hq9 | exact hz9 | exact Nat.le_refl _ | exact Nat.le_succ _ | exact Nat.le_succ_of_le hz9 | (with_reducible refine HZR.out _ _ _ ?_ ?_) | (with_reducible refine HZA.out _ _ ?_) | (with_reducible refine HZD.out _ _ ?_) | (with_reducible refine HZE.out _ ?_))⟩
                  | exact ⟨_, _, rfl, rfl, Nat.le_succ _, Nat.le_refl _, hD.ne, (hD.fin _ _).1, (hD.fin _ _).2, hF.1, by repeat (first | exact hq9 | exact hz9 | exact Nat.le_refl _ | exact Nat.le_succ _ | exact Nat.le_succ_of_le hz9 | (with_reducible refine HZR.out _ _ _ ?_ ?_) | (with_reducible refine HZA.out _ _ ?_) | (with_reducible refine HZD.out _ _ ?_) | (with_reducible refine HZE.out _ ?_))⟩
              case rest =>
                obtain ⟨b9, b10, rfl, rfl, hb9, hb10, hbn, hr9, hr10, hu, hq'⟩ := hcut
                have l9 := hr9.ld0 Tryz.underlying41 rfl (by rw [HG3.out.1]; kernel_rfl)
                have d0 : wc.cell? ⟨b10, 0, none⟩ = some (.int .i64 0) := hr10.cell 0
                have hu : Upd (fun k => k = Mb) w5 wc := by rw [HSD.out] at hu; exact hu
                have hq' : CpuLaw.MemA wc Mb i (fun j => CpuLaw.bt (bpP (prgs ls (j + 1))) (runP (prgs ls (j + 1)) (bmp cnt (q + 1) (j + 1))).d) := by rw [HQD.out] at hq'; exact hq'
                have hrb := HRB.out.upd hu (fun e => HA5.out.bk.ne e.symm)
                obtain ⟨w9, hst, hrb9, hu9⟩ := hrb.st HQN.out.1 (runP (prgs ls (q + 1)) (cnt (q + 1) + 1)).g
                rw [← HG3D.out] at hst
                have HA9 : Hid (As w2 w9 k s5 Mb Rb nc i nt5 (prgs ls) (bmp cnt (q + 1)) (bmp cnt (q + 1))) := Lib.hid (by
                  have h := HA5.out
                  rw [HQN.out.2] at h
                  exact ⟨(h.sv.ownA hu h.lM h.tM).ownA hu9 h.lR h.tR, h.tz, h.tM, h.tR, h.lM, h.lR, ⟨hq'.keepB (hu9.block Mb hq'.lt h.bk.ne) hu9.size, hrb9.bumped, h.bk.ne⟩⟩)
                clear hr9 hr10 hu hq' hrb hrb9 hu9 hb9 hb10 hbn HA5 HRB HST HLD HSA HDr HAl HRw HD0 HD00 HDA HDB HP0 HPA HPB HZA HZD HZE HZR HQK HQK' HQO' HQ2 HS0L HSD HQD HG3D
                go_wp2_with fail
                go_roundw
                case rel => exact ⟨j + 1, HJ.out, by go_num, Lib.hid ⟨s5, nt5, _, HN5.out, HA9.out⟩⟩
                case measure => have := HJ.out; simp [intOf]; omega
          · obtain rfl : j = m := by omega
            obtain ⟨s, nt, cnt, hnt, has⟩ := HA.out
            have HAS := Lib.hid has
            clear hnt has HA hj0
            go_upto_region 30 with fail
            go_wp2_with fail
            go_loopw [130] (fun cv wr => ∃ c : Nat, c ≤ i ∧ cv = .int .i64 c ∧ Hid (As w2 wr k s Mb Rb nc i nt (prgs ls) cnt cnt)) (fun cv _ => i - (intOf cv).toNat)
            case atStart => exact ⟨0, Nat.zero_le _, rfl, HAS⟩
            case round =>
              clear HAS
              obtain ⟨c, hc0, rfl, HAS⟩ := hrel
              by_cases hc : c < i
              · have c1 : (c : Int) < i := by omega
                have HC := Lib.hid hc
                have HRG := Lib.hid (tregs_is HAS.out.sv.kt HAS.out.tz (p := c + 1) (by omega) (by omega))
                rw [show ((c + 1 : Nat) : Int) = (c : Int) + 1 by omega] at HRG
                obtain ⟨g, hg⟩ : ∃ g, g = (runP (prgs ls (c + 1)) (cnt (c + 1))).g := ⟨_, rfl⟩
                rw [← hg] at HRG
                have HGD := Lib.hid hg
                have hne := fun w => CpuLaw.neq61 g w
                simp only [neR_eq] at hne
                have HG1 := Lib.hid (CpuLaw.cellsA_one g)
                have HG10 : Hid ((CpuLaw.cellsA g).size = 10) := Lib.hid rfl
                clear hc hc0 hg
                have HLR : Hid (∀ wx, Below wr.heap.size wr wx → (ldR 41 (.pointer (some ⟨Rb, c * 10, none⟩))).run Tryz.prog wx = .ok (.agg (CpuLaw.cellsA g)) wx) := Lib.hid (fun wx hb => by rw [HGD.out]; exact (HAS.out.keep hb).bk.rg.ld HC.out)
                clear HGD
                generalize CpuLaw.cellsA g = GA at *
                have HST := Lib.hid (fun w6 => st0_new w6 (T := 41) (c := rgZ) (cs := GA) (by rw [HG10.out]; rfl) (by rw [HG10.out]; kernel_rfl) HG1.out)
                have HLD := Lib.hid (fun w6 : World => (row_new w6 41 GA).ld0 Tryz.underlying41 rfl (by rw [HG10.out]; kernel_rfl))
                go_upto_region 34 with (go_at_call 11; refine HRG.out.mono ?_; rintro e6 w6 ⟨rfl, hb6⟩; have hst := HST.out w6; simp only [rgZ] at hst; have HB6 := Lib.hid hb6; clear hb6)
                have HB7 : Hid (Below wr.heap.size wr (w6.alloc (.cells GA 41))) := Lib.hid (HB6.out.trans ((Go.Joins.below_alloc1 w6 _).mono HB6.out.size))
                have l1 := HLD.out w6
                have l2 := HLR.out _ HB7.out
                have l3 := fun n : Nat => ((row_new w6 41 GA).drewN n).ld0 Tryz.underlying41 rfl (by rw [HG10.out]; kernel_rfl)
                have l4 := fun n : Nat => HLR.out _ (below_drewN HB7.out n)
                have n1 := fun (w : World) => hne w
                have HAS7 : Hid (∀ nq, As w2 ((w6.alloc (.cells GA 41)).drewN nq) k s Mb Rb nc i nt (prgs ls) cnt cnt) := Lib.hid fun nq => HAS.out.keep (below_drewN HB7.out nq)
                clear hst HST HLD HLR HRG
                generalize w6.alloc (.cells GA 41) = w7 at *
                go_quiet (fail)
                go_wp2_with fail
                go_roundw
                case rel => exact ⟨c + 1, HC.out, by go_num, Lib.hid (HAS7.out _)⟩
                case measure => have := HC.out; simp [intOf]; omega
              · obtain rfl : c = i := by omega
                go_wp2_with fail
                go_ret
                exact ⟨rfl, HB2.out.trans (HAS.out.sv.hb.mono HB2.out.size)⟩
end Go.Proofs.YtepadaleokijfaaGreatDoor
