/- append at a run's tasks; the walks of spread's enter, Add at any run. The walks of spread's enter, Add at any run. The walks of spread's New, Add at any run. -/
import Derived.Test.YthioadiiedlmfaaGreatDoorDisk3
import Derived.ArgAppend
import Derived.Deep.RegionHeld3
namespace Go.Proofs.YthioadiiedlmfaaGreatDoor
open Go.RowKit
set_option linter.unusedVariables false
set_option linter.unusedSimpArgs false
def appT := Builtin.append_ #[173, 173] 173
theorem infoT : (Tryz.prog.info? 186).map (fun i => (i.zero, i.size, i.bytes)) = some (some (.agg #[.int .i64 0, .int .i64 0, .int .i64 0, .int .i64 0, .int .i64 0, .int .i64 0, .int .i64 0, .int .i64 0, .int .i64 0, .int .i64 0, .int .i64 0, .int .i64 0, .bool false, .bool false, .int .i64 0]), 15, 112) := by kernel_rfl
def bsT (ps : Array (Nat × Value)) : Sem Value := Instr.buildSlice 173 1 ps
theorem bs_task (ps : Array (Nat × Value)) : Instr.buildSlice 173 1 ps = bsT ps := rfl
section
variable {w w' : World} {R cap : Nat} {ad : Option Addr} {cpus ticks pin : Int} {l : List Tk} {T i : Nat} {C X : Array Value} {x : Tk}
theorem tkr_own {base n : Nat} {v : Value} {xs : List Value} (ho : w'.ownsRow base 186 15 v n xs) (hn : 0 < n) (hR : R < base) (hl : l.length = n) (hm : n ≤ 1000) (ht : TksIn xs.toArray pin l) : ∃ T c C, v = .slice (some ⟨T, 0, none⟩) n c ∧ base ≤ T ∧ TkR w' R T c pin l C := by
  rcases ho.2 with ⟨he, h0⟩ | ⟨g, c, cur, he, hb, hg, hnc, hcm, hcs, htk⟩
  · omega
  refine ⟨g, c, cur, he, hb, by omega, hg, by omega, hcm, by omega, by omega, fun i x hx => (ht i x hx).of fun j hj => ?_⟩
  have hi := (List.getElem?_eq_some_iff.1 hx).1
  rw [← htk]
  simp only [List.getElem?_toArray]
  rw [List.getElem?_take, if_pos (by omega)]
  simp
theorem tks_push (hC : TksIn C pin l) (hc : l.length * 15 ≤ C.size) (hX : TkIn X 0 pin x) (hs : X.size = 15) : TksIn (C.toList.take (l.length * 15) ++ X.toList).toArray pin (l ++ [x]) := by
  have hlen : (C.toList.take (l.length * 15)).length = l.length * 15 := by rw [List.length_take]; simp; omega
  intro i y hy
  by_cases hi : i < l.length
  · rw [List.getElem?_append_left hi] at hy
    refine (hC i y hy).of fun j hj => ?_
    rw [List.getElem?_toArray, List.getElem?_append_left (by omega), List.getElem?_take, if_pos (by omega)]
    simp
  · rw [List.getElem?_append_right (by omega)] at hy
    have h0 : i = l.length := by
      have := (List.getElem?_eq_some_iff.1 hy).1
      simp at this
      omega
    subst h0
    simp at hy
    subst hy
    refine hX.of fun j hj => ?_
    rw [List.getElem?_toArray, List.getElem?_append_right (by omega), hlen]
    simp
theorem app_any (h : RunG w R ad cap cpus ticks pin l) (hX : TkIn X 0 pin x) (hs : X.size = 15) (hm : l.length < 1000) : ∃ T c w', (appT #[.slice ad l.length cap, .slice (some ⟨w.heap.size, 0, none⟩) 1 1]).run Tryz.prog (w.alloc (.cells X 186)) = .ok (.slice (some ⟨T, 0, none⟩) (l.length + 1) c) w' ∧ RunG (w'.setCell ⟨R, 3, none⟩ (.slice (some ⟨T, 0, none⟩) (l.length + 1) c)) R (some ⟨T, 0, none⟩) c cpus ticks pin (l ++ [x]) ∧ (∃ v, w'.cell? ⟨R, 3, none⟩ = some v) ∧ w'.frozen? ⟨R, 3, none⟩ = false ∧ (ad = some ⟨T, 0, none⟩ ∨ w.heap.size ≤ T) ∧ Upd (rS R ad) w w' := by
  obtain ⟨i0, hi, hz0, hz1, hz2⟩ := info_parts infoT
  have hb1 := Go.Joins.below_alloc1 w (.cells X 186)
  have hr1 := row_new w 186 X
  have hone : ∀ u ∈ X.toList, u.oneCell' = true := by
    have := hX.one hs
    rw [Array.all_eq_true] at this
    intro u hu
    obtain ⟨j, hj, rfl⟩ := List.getElem_of_mem hu
    simpa using this j (by simpa using hj)
  have hnew : ∀ j u, X.toList[j]? = some u → (w.alloc (.cells X 186)).cell? ((⟨w.heap.size, 0, none⟩ : Addr).add j) = some u := fun j u hu => by
    rw [Addr.add_lit, hr1.cell]
    simpa using hu
  have hk := h.keep hb1
  have hRl := h.lt
  have hsz : w.heap.size ≤ (w.alloc (.cells X 186)).heap.size := hb1.size
  rcases h.row with ⟨rfl, rfl, rfl⟩ | ⟨T, C, rfl, ht⟩
  · obtain ⟨v', w', hr, ho, hg, -⟩ := run_append_fresh (P := Tryz.prog) (w.alloc (.cells X 186)) w.heap.size 173 173 186 i0 _ 15 112 Tryz.underlying173 hi hz0 hz1 hz2 rfl (by decide) (.slice none 0 0) 0 [] (World.ownsRow_nil _ _ _ _) ⟨w.heap.size, 0, none⟩ 1 1 X.toList (by simpa using hs) hnew hone (by decide) (by decide) (by simp)
    have hbg : Below w.heap.size w w' := hb1.trans ((Below.refl _ _).grown hg (by simp) (fun k hk => by simp [Value.ownBlock] at hk))
    obtain ⟨T, c, C, rfl, hT, htr⟩ := tkr_own (l := [x]) (pin := pin) (R := R) ho (by decide) hRl rfl (by decide) (tks_push (C := #[]) (l := []) (fun i y hy => by simp at hy) (by simp) hX hs)
    have hq := (h.keep hbg).r
    exact ⟨T, c, w', hr, hq.lay htr rfl, hq.c3, hq.fz 3, .inr hT, Upd.below hbg⟩
  · have htk := ht.keep hb1
    by_cases hroom : l.length + 1 ≤ cap
    · have hc2 : ∀ j, j < X.toList.length → ((w.alloc (.cells X 186)).cell? ⟨T, 0 + l.length * i0.size + j, none⟩).isSome = true := fun j hj => by
        have hj' : j < 15 := by simpa [hs] using hj
        have := ht.sz
        rw [htk.row.cell, hz1, Array.getElem?_eq_getElem (by omega)]
        rfl
      have hf2 : ∀ j, j < X.toList.length → (w.alloc (.cells X 186)).frozen? ⟨T, 0 + l.length * i0.size + j, none⟩ = false := fun j _ => htk.row.fz _
      have hr := run_append_room_cells (P := Tryz.prog) (w := w.alloc (.cells X 186)) 173 173 186 i0 Tryz.underlying173 hi T 0 l.length cap ⟨w.heap.size, 0, none⟩ 1 1 X.toList (by rw [hz1]; simpa using hs) hnew hone hroom hc2 hf2
      rw [hz1, htk.row.setCells X.toList (by have := ht.sz; simp [hs]; omega)] at hr
      have hu2 : Upd (fun k => k = T) (w.alloc (.cells X 186)) ((w.alloc (.cells X 186)).setRow T (putA C (0 + l.length * 15) X.toList)) := Upd.setRow _ _ rfl
      have hq := hk.r.upd hu2 (fun e => ht.ne e.symm)
      have hpl : 0 + l.length * 15 + X.toList.length ≤ C.size := by have := ht.sz; simp [hs]; omega
      refine ⟨T, cap, _, hr, hq.lay (C := putA C (0 + l.length * 15) X.toList) ⟨ht.ne, htk.row.setRow _, ?_, ht.mx, by simpa using hroom, by simp; omega, ?_⟩ (by simp), hq.c3, hq.fz 3, .inl rfl, (Upd.below hb1).trans' hu2 (fun k _ e => .inr ⟨_, rfl, e⟩)⟩
      · rw [putA_size hpl]; exact ht.sz
      · intro i y hy
        by_cases hi : i < l.length
        · rw [List.getElem?_append_left hi] at hy
          refine (ht.tks i y hy).of fun j hj => ?_
          rw [putA_get hpl, if_neg (by omega)]
        · rw [List.getElem?_append_right (by omega)] at hy
          have h0 : i = l.length := by
            have := (List.getElem?_eq_some_iff.1 hy).1
            simp at this
            omega
          subst h0
          simp at hy
          subst hy
          refine hX.of fun j hj => ?_
          rw [putA_get hpl, if_pos (by simp [hs]; omega)]
          simp
    · have hlo : (C.toList.take (l.length * 15)).length = l.length * 15 := by rw [List.length_take]; have := ht.sz; have := ht.len; simp; omega
      obtain ⟨v', w', hr, ho, hg⟩ := run_append_arg_grows (P := Tryz.prog) (w := w.alloc (.cells X 186)) 173 173 186 i0 _ 15 112 Tryz.underlying173 hi hz0 hz1 hz2 rfl (by decide) ⟨T, 0, none⟩ l.length cap (C.toList.take (l.length * 15)) hlo (fun j u hu => by
        rw [List.getElem?_take] at hu
        split at hu
        · rw [Addr.add_lit, htk.row.cell]; simpa using hu
        · cases hu) ⟨w.heap.size, 0, none⟩ 1 1 X.toList (by simpa using hs) hnew (by omega) (by unfold maxLen; omega) (by omega)
      have hbg : Below w.heap.size w w' := hb1.trans ((Below.refl _ _).grown hg (by simp) (fun k hk => by cases hk))
      obtain ⟨T', c, C', rfl, hT, htr⟩ := tkr_own (l := l ++ [x]) (pin := pin) (R := R) ho (by omega) (by omega) (by simp) (by omega) (tks_push ht.tks (by have := ht.sz; have := ht.len; omega) hX hs)
      have hq := (h.keep hbg).r
      exact ⟨T', c, w', hr, hq.lay htr (by simp), hq.c3, hq.fz 3, .inr (by omega), Upd.below hbg⟩
end
end Go.Proofs.YthioadiiedlmfaaGreatDoor
namespace Go.Proofs.YthioadiiedlmfaaGreatDoor
open Go.RowKit
set_option linter.unusedVariables false
set_option linter.unusedSimpArgs false
def tX (t v pin : Int) : Array Value := #[.int .i64 t, .int .i64 1, .int .i64 10, .int .i64 0, .int .i64 0, .int .i64 0, .int .i64 0, .int .i64 0, .int .i64 0, .int .i64 v, .int .i64 0, .int .i64 pin, .bool true, .bool false, .int .i64 0]
theorem tX_in (t v pin : Int) : TkIn (tX t v pin) 0 pin ⟨t, v, true, 0⟩ := ⟨rfl, rfl, rfl, rfl, rfl, rfl, rfl, rfl, rfl, rfl, ⟨0, rfl⟩, rfl, rfl, rfl, rfl⟩
theorem bsT_any (w : World) (t v pin : Int) : (bsT #[(0, .agg (tX t v pin))]).run Tryz.prog w = .ok (.slice (some ⟨w.heap.size, 0, none⟩) 1 1) (w.alloc (.cells (tX t v pin) 186)) := by kernel_rfl
def ixT (x i : Value) : Sem Value := Instr.indexAt 173 x i
theorem ix_task (x i : Value) : Instr.indexAt 173 x i = ixT x i := rfl
theorem ixT_run (w : World) (T c n : Nat) : (ixT (.slice (some ⟨T, 0, none⟩) (n + 1) c) (.int .i64 n)).run Tryz.prog w = .ok (.pointer (some ⟨T, n * 15, none⟩)) w := by
  have h0 : (0 : Int) ≤ n := by omega
  have h1 : (n : Int) < (n : Int) + 1 := by omega
  simp [ixT, Instr.indexAt, go_sem, run_underlying Tryz.underlying173, h0, h1]
/-- the tasks behind an entry -/
def enterL (l : List Tk) (t : Int) (m : Nat) : List Tk := fillG (l ++ [⟨t, (lowG l l.length).getD 0, true, -1⟩]) m
section
variable {w w' : World} {R cap : Nat} {ad : Option Addr} {cpus ticks pin : Int} {l : List Tk} {T i : Nat} {C X : Array Value} {x : Tk}
attribute [local go_sem ↓] ld_task bs_task ix_task
set_option maxRecDepth 100000 in
set_option maxHeartbeats 1000000 in
theorem enterG_is {m : Nat} (h : RunG w R ad cap m ticks pin l) (t : Int) (hm : m ≤ 8) (hl : l.length < 1000) (hpin : wrap64 (wrap64 (2 ^ m) - 1) = pin) (hp : ∀ c, c < m → pinOk pin c) :
    Calls Tryz.prog 66 #[.pointer (some ⟨R, 0, none⟩), .agg #[.int .i64 t, .int .i64 1, .int .i64 10, .int .i64 0, .int .i64 0, .int .i64 0, .int .i64 0, .int .i64 0, .int .i64 0, .int .i64 0, .int .i64 0, .int .i64 0, .bool false, .bool false, .int .i64 0]] w fun e w' => e = .returned (.tuple #[]) ∧ (∃ T c, RunG w' R (some ⟨T, 0, none⟩) c m ticks pin (enterL l t m) ∧ (ad = some ⟨T, 0, none⟩ ∨ w.heap.size ≤ T)) ∧ Upd (rS R ad) w w' := by
  have c0 := h.c0
  have HH := Lib.hid h
  have hne : ¬ R = w.heap.size := by have := h.lt; omega
  have hm0 : (0 : Int) ≤ m := by omega
  have hm1 : (m : Int) ≤ 8 := by omega
  have d0 : ∀ C : Array Value, (w.alloc (.cells C 186)).cell? ⟨R, 0, none⟩ = some (.int .i64 m) := fun C => (h.keep (Go.Joins.below_alloc1 w _)).c0
  have HP := Lib.hid (And.intro hp hl)
  clear h hp hl
  go_enter Tryz.func66, Tryz.ntmps66
  go_upto_region 2 with fail
  have HR1 : Hid (Row (w.alloc (.cells (tX t 0 pin) 186)) w.heap.size 186 (tX t 0 pin)) := Lib.hid (row_new w _ _)
  have HB1 := Lib.hid (Go.Joins.below_alloc1 w (.cells (tX t 0 pin) 186))
  have HQ1 := Lib.hid (HH.out.keep HB1.out)
  (try rw [hpin])
  change Code.wp _ _ _ _ (w.alloc (.cells (tX t 0 pin) 186))
  generalize hw1 : w.alloc (.cells (tX t 0 pin) 186) = w1 at *
  clear d0 c0 hw1
  have HLO := Lib.hid (lowG_is HQ1.out)
  obtain ⟨o, ho⟩ : ∃ o, o = lowG l l.length := ⟨_, rfl⟩
  have HLE : Hid (enterL l t m = fillG (l ++ [⟨t, o.getD 0, true, -1⟩]) m) := Lib.hid (by rw [ho]; rfl)
  rw [← ho] at HLO
  clear ho
  go_upto_region 3 with (go_at_call 138; refine HLO.out.mono ?_; rintro e2 w2 ⟨rfl, hb2⟩)
  have HR2 := Lib.hid (HR1.out.keep hb2)
  have HQ2 := Lib.hid (HQ1.out.keep hb2)
  have HB2 := Lib.hid (HB1.out.trans (hb2.mono HB1.out.size))
  have HLT := Lib.hid HH.out.lt
  clear hb2 HLO HR1 HB1 HQ1
  have x1 := HR2.out.cell 1
  have x9 := HR2.out.cell 9
  have f9 := HR2.out.fz 9
  rw [show (tX t 0 pin)[1]? = some (.int .i64 1) from rfl] at x1
  rw [show (tX t 0 pin)[9]? = some (.int .i64 0) from rfl] at x9
  cases o with
  | none =>
    rw [show lowB none = .bool false from rfl, show lowN none = .int .i64 0 from rfl]
    go_upto_region 5 with fail
    have HR3 := HR2
    have HQ3 := HQ2
    have HB3 := HB2
    generalize w2 = w3 at *
    clear x1 x9 f9 HR2 HQ2 HB2
    obtain ⟨n, hn⟩ : ∃ n, n = l.length := ⟨_, rfl⟩
    have hal := Go.Joins.below_alloc1 w3 (.cells (tX t 0 pin) 186)
    obtain ⟨T, c, w4, hap, hG4, ⟨u3, e3⟩, f3, hT, hU4⟩ := app_any HQ3.out.drew (tX_in t 0 pin) rfl HP.out.2
    have hap : (Builtin.append_ #[173, 173] 173 #[.slice ad l.length cap, .slice (some ⟨w3.heap.size, 0, none⟩) 1 1]).run Tryz.prog ((w3.alloc (.cells (tX t 0 pin) 186)).drew) = .ok (.slice (some ⟨T, 0, none⟩) (l.length + 1) c) w4 := hap
    have c3 := HQ3.out.c3
    have d3 := (HQ3.out.keep hal).c3
    have l3 := HR3.out.ld0 (d := _) Tryz.underlying186 rfl (by kernel_rfl)
    have l3d := HR3.out.drew.ld0 (d := _) Tryz.underlying186 rfl (by kernel_rfl)
    have l4 := (HR3.out.keep hal).ld0 (d := _) Tryz.underlying186 rfl (by kernel_rfl)
    have l4d := (HR3.out.keep hal).drew.ld0 (d := _) Tryz.underlying186 rfl (by kernel_rfl)
    have hbs := fun w => bsT_any w t 0 pin
    have HG4 := Lib.hid hG4
    have HT3 : Hid (ad = some ⟨T, 0, none⟩ ∨ w.heap.size ≤ T) := Lib.hid (by rcases hT with q | q; exact .inl q; exact .inr (Nat.le_trans HB3.out.size q))
    have HU5 := Lib.hid (((Upd.below HB3.out).trans ((Upd.drew w3).trans hU4)).trans (Upd.set w4 (i := 3) (.slice (some ⟨T, 0, none⟩) (l.length + 1) c) (S := rS R ad) (b := R) (.inl rfl)))
    have HX : Hid ((l ++ [(⟨t, 0, true, 0⟩ : Tk)])[l.length]? = some ⟨t, 0, true, 0⟩) := Lib.hid (by simp)
    have HLL : Hid ((l ++ [(⟨t, 0, true, 0⟩ : Tk)]).length = l.length + 1) := Lib.hid (by simp)
    have HLS : Hid ((l ++ [(⟨t, 0, true, 0⟩ : Tk)]).set l.length ⟨t, 0, true, -1⟩ = l ++ [⟨t, 0, true, -1⟩]) := Lib.hid (by simp)
    have hmx := HQ3.out.mx
    rw [← hn] at hap c3 d3 HG4 HU5 HX HLL HLS hmx
    have HN := Lib.hid hn
    clear hG4 hT hU4 hal hn HQ3 HR3 HB3
    have n0 : (0 : Int) ≤ n := by omega
    have n1 : (n : Int) < (n : Int) + 1 := by omega
    have n2 : IntKind.i64.wrap (n : Int) = n := IntWalk.i64_in _ (by omega)
    generalize tX t 0 pin = A at *
    have hix := fun w => ixT_run w T c n
    go_region_law (refine step_append_run rfl (.tmp 31) (.tmp 33) 173 rfl hap ?_)
    all_goals
      clear hap c3 d3 l3 l3d l4 l4d hbs e3 f3
      generalize w4.setCell ⟨R, 3, none⟩ (.slice (some ⟨T, 0, none⟩) (n + 1) c) = w5 at *
      have c3 : w5.cell? ⟨R, 3, none⟩ = some (.slice (some ⟨T, 0, none⟩) (n + 1) c) := by have := HG4.out.c3; rwa [HLL.out] at this
      have HWT := Lib.hid (waitG_is HG4.out.drew HX.out)
      go_upto_region 6 with fail
      go_region_held3 (fun wx => wx.cell? ⟨R, 3, none⟩ = some (.slice (some ⟨T, 0, none⟩) (n + 1) c)) (first | assumption | exact hS6) ((go_at_call 139; refine HWT.out.mono ?_; rintro e6 w6 ⟨rfl, hr6, hu6⟩; have hS6 : w6.cell? ⟨R, 3, none⟩ = some (.slice (some ⟨T, 0, none⟩) (n + 1) c) := (by have := hr6.c3; rwa [List.length_set, HLL.out] at this)))
      clear hS6
      rw [HLS.out] at hr6
      have HU6 := Lib.hid (HU5.out.trans' ((Upd.drew w5).trans hu6) (fun k hk e => by
        rcases e with e | ⟨a, e1, e2⟩
        · exact .inl e
        · injection e1 with e1
          subst e1
          rcases HT3.out with q | q
          · exact .inr ⟨_, q, e2⟩
          · have e2 : k = T := e2
            omega))
      have HFI := Lib.hid (fillG_is hr6 HP.out.1 (by omega))
      clear hr6 hu6 c3 HWT
      go_wp2_with (go_at_call 140; refine HFI.out.mono ?_; rintro e7 w7 ⟨rfl, hr7, hu7⟩; have HR7 := Lib.hid hr7; have HU7 := Lib.hid (HU6.out.trans' hu7 (fun k hk e => by
        rcases e with e | ⟨a, e1, e2⟩
        · exact .inl e
        · injection e1 with e1
          subst e1
          rcases HT3.out with q | q
          · exact .inr ⟨_, q, e2⟩
          · have e2 : k = T := e2
            omega)); clear hr7 hu7)
      (try simp only [Exit.inBlock, Exit.then]); first | (refine bodyPost_ret (results_none rfl _ _ _) rfl ?_) | (refine bodyPost_end (results_none rfl _ _ _) rfl ?_)
      exact ⟨rfl, ⟨_, _, by rw [HLE.out]; exact HR7.out, HT3.out⟩, HU7.out⟩
  | some v =>
    rw [show lowB (some v) = .bool true from rfl, show lowN (some v) = .int .i64 v from rfl]
    go_upto_region 5 with fail
    have HU0 : Hid (Upd (fun k => k = w.heap.size) w2 (w2.setCell ⟨w.heap.size, 9, none⟩ (.int .i64 v))) := Lib.hid (Upd.set _ _ rfl)
    have HR3 : Hid (Row (w2.setCell ⟨w.heap.size, 9, none⟩ (.int .i64 v)) w.heap.size 186 (tX t v pin)) := Lib.hid (by rw [HR2.out.setCell]; exact HR2.out.setRow _)
    have HQ3 := Lib.hid (HQ2.out.upd HU0.out (fun e => hne e) (fun a e q => by
      rcases HH.out.row with ⟨q1, _⟩ | ⟨T, C, q1, q2⟩
      · rw [e] at q1; cases q1
      · rw [e] at q1; injection q1 with q1; subst q1; have := q2.row.lt; have q : T = w.heap.size := q; omega))
    have HB3 := Lib.hid (HB2.out.trans (HU0.out.toBelow (B := w.heap.size) HB2.out.size (fun k hk e => by omega)))
    clear HU0
    generalize w2.setCell ⟨w.heap.size, 9, none⟩ (.int .i64 v) = w3 at *
    clear x1 x9 f9 HR2 HQ2 HB2
    obtain ⟨n, hn⟩ : ∃ n, n = l.length := ⟨_, rfl⟩
    have hal := Go.Joins.below_alloc1 w3 (.cells (tX t v pin) 186)
    obtain ⟨T, c, w4, hap, hG4, ⟨u3, e3⟩, f3, hT, hU4⟩ := app_any HQ3.out.drew (tX_in t v pin) rfl HP.out.2
    have hap : (Builtin.append_ #[173, 173] 173 #[.slice ad l.length cap, .slice (some ⟨w3.heap.size, 0, none⟩) 1 1]).run Tryz.prog ((w3.alloc (.cells (tX t v pin) 186)).drew) = .ok (.slice (some ⟨T, 0, none⟩) (l.length + 1) c) w4 := hap
    have c3 := HQ3.out.c3
    have d3 := (HQ3.out.keep hal).c3
    have l3 := HR3.out.ld0 (d := _) Tryz.underlying186 rfl (by kernel_rfl)
    have l3d := HR3.out.drew.ld0 (d := _) Tryz.underlying186 rfl (by kernel_rfl)
    have l4 := (HR3.out.keep hal).ld0 (d := _) Tryz.underlying186 rfl (by kernel_rfl)
    have l4d := (HR3.out.keep hal).drew.ld0 (d := _) Tryz.underlying186 rfl (by kernel_rfl)
    have hbs := fun w => bsT_any w t v pin
    have HG4 := Lib.hid hG4
    have HT3 : Hid (ad = some ⟨T, 0, none⟩ ∨ w.heap.size ≤ T) := Lib.hid (by rcases hT with q | q; exact .inl q; exact .inr (Nat.le_trans HB3.out.size q))
    have HU5 := Lib.hid (((Upd.below HB3.out).trans ((Upd.drew w3).trans hU4)).trans (Upd.set w4 (i := 3) (.slice (some ⟨T, 0, none⟩) (l.length + 1) c) (S := rS R ad) (b := R) (.inl rfl)))
    have HX : Hid ((l ++ [(⟨t, v, true, 0⟩ : Tk)])[l.length]? = some ⟨t, v, true, 0⟩) := Lib.hid (by simp)
    have HLL : Hid ((l ++ [(⟨t, v, true, 0⟩ : Tk)]).length = l.length + 1) := Lib.hid (by simp)
    have HLS : Hid ((l ++ [(⟨t, v, true, 0⟩ : Tk)]).set l.length ⟨t, v, true, -1⟩ = l ++ [⟨t, v, true, -1⟩]) := Lib.hid (by simp)
    have hmx := HQ3.out.mx
    rw [← hn] at hap c3 d3 HG4 HU5 HX HLL HLS hmx
    have HN := Lib.hid hn
    clear hG4 hT hU4 hal hn HQ3 HR3 HB3
    have n0 : (0 : Int) ≤ n := by omega
    have n1 : (n : Int) < (n : Int) + 1 := by omega
    have n2 : IntKind.i64.wrap (n : Int) = n := IntWalk.i64_in _ (by omega)
    generalize tX t v pin = A at *
    have hix := fun w => ixT_run w T c n
    go_region_law (refine step_append_run rfl (.tmp 31) (.tmp 33) 173 rfl hap ?_)
    all_goals
      clear hap c3 d3 l3 l3d l4 l4d hbs e3 f3
      generalize w4.setCell ⟨R, 3, none⟩ (.slice (some ⟨T, 0, none⟩) (n + 1) c) = w5 at *
      have c3 : w5.cell? ⟨R, 3, none⟩ = some (.slice (some ⟨T, 0, none⟩) (n + 1) c) := by have := HG4.out.c3; rwa [HLL.out] at this
      have HWT := Lib.hid (waitG_is HG4.out.drew HX.out)
      go_upto_region 6 with fail
      go_region_held3 (fun wx => wx.cell? ⟨R, 3, none⟩ = some (.slice (some ⟨T, 0, none⟩) (n + 1) c)) (first | assumption | exact hS6) ((go_at_call 139; refine HWT.out.mono ?_; rintro e6 w6 ⟨rfl, hr6, hu6⟩; have hS6 : w6.cell? ⟨R, 3, none⟩ = some (.slice (some ⟨T, 0, none⟩) (n + 1) c) := (by have := hr6.c3; rwa [List.length_set, HLL.out] at this)))
      clear hS6
      rw [HLS.out] at hr6
      have HU6 := Lib.hid (HU5.out.trans' ((Upd.drew w5).trans hu6) (fun k hk e => by
        rcases e with e | ⟨a, e1, e2⟩
        · exact .inl e
        · injection e1 with e1
          subst e1
          rcases HT3.out with q | q
          · exact .inr ⟨_, q, e2⟩
          · have e2 : k = T := e2
            omega))
      have HFI := Lib.hid (fillG_is hr6 HP.out.1 (by omega))
      clear hr6 hu6 c3 HWT
      go_wp2_with (go_at_call 140; refine HFI.out.mono ?_; rintro e7 w7 ⟨rfl, hr7, hu7⟩; have HR7 := Lib.hid hr7; have HU7 := Lib.hid (HU6.out.trans' hu7 (fun k hk e => by
        rcases e with e | ⟨a, e1, e2⟩
        · exact .inl e
        · injection e1 with e1
          subst e1
          rcases HT3.out with q | q
          · exact .inr ⟨_, q, e2⟩
          · have e2 : k = T := e2
            omega)); clear hr7 hu7)
      (try simp only [Exit.inBlock, Exit.then]); first | (refine bodyPost_ret (results_none rfl _ _ _) rfl ?_) | (refine bodyPost_end (results_none rfl _ _ _) rfl ?_)
      exact ⟨rfl, ⟨_, _, by rw [HLE.out]; exact HR7.out, HT3.out⟩, HU7.out⟩
end
end Go.Proofs.YthioadiiedlmfaaGreatDoor
namespace Go.Proofs.YthioadiiedlmfaaGreatDoor
open Go.RowKit
set_option linter.unusedVariables false
set_option linter.unusedSimpArgs false
def onePin (m : Nat) : Int := wrap64 (wrap64 (2 ^ m) - 1)
theorem onePin_ok {m : Nat} (hm : m ≤ 8) : ∀ c, c < m → pinOk (onePin m) c := by
  have h : ∀ m, m < 9 → ∀ c, c < m → bits .and .i64 (onePin m / 2 ^ c) 1 = 1 := by decide +kernel
  exact fun c hc => h m (by omega) c hc
section
variable {w w' : World} {R cap : Nat} {ad : Option Addr} {cpus ticks pin : Int} {l : List Tk}
set_option maxRecDepth 100000 in
set_option maxHeartbeats 400000 in
theorem snewG_is (w : World) {m : Nat} (h1 : 1 ≤ m) (h8 : m ≤ 4) : Calls Tryz.prog 28 #[.int .i64 m] w fun e w' => e = .returned (.tuple #[.pointer (some ⟨w.heap.size, 0, none⟩), .int .i64 0]) ∧ Below w.heap.size w w' ∧ w'.heap.size = w.heap.size + 1 ∧ RunG w' w.heap.size none 0 m 0 (onePin m) [] := by
  have hr := row_new w 175 #[.int .i64 m, .int .i64 0, .int .i64 0, .slice none 0 0]
  have HQ : Hid (RunG (w.alloc (.cells #[.int .i64 m, .int .i64 0, .int .i64 0, .slice none 0 0] 175)) w.heap.size none 0 m 0 (onePin m) []) := Lib.hid ⟨hr.lt, hr.fz, by rw [hr.cell]; rfl, by rw [hr.cell]; rfl, ⟨0, by rw [hr.cell]; rfl⟩, by rw [hr.cell]; rfl, .inl ⟨rfl, rfl, rfl⟩⟩
  clear hr
  have : m = 1 ∨ m = 2 ∨ m = 3 ∨ m = 4 := by omega
  rcases this with rfl | rfl | rfl | rfl
  all_goals
    clear h1 h8
    go_enter Tryz.func28, Tryz.ntmps28
    go_wp2_with fail
    go_ret2
    exact ⟨rfl, Go.Joins.below_alloc1 w _, by simp, HQ.out⟩
set_option maxRecDepth 100000 in
set_option maxHeartbeats 400000 in
theorem valueG_is (w : World) : Calls Tryz.prog 64 #[.int .i64 1, .int .i64 10] w fun e w' => e = .returned (.bool true) ∧ w = w' := by
  go_enter Tryz.func64, Tryz.ntmps64
  go_wp2_with fail
  go_ret
  exact ⟨rfl, rfl⟩
set_option maxRecDepth 100000 in
set_option maxHeartbeats 400000 in
theorem addG_is {m : Nat} (h : RunG w R ad cap m ticks (onePin m) l) {t : Int} (h1 : 1 ≤ t) (h2 : t ≤ 16) (ht : idG l t = none) (hm : m ≤ 8) (hl : l.length < 1000) : Calls Tryz.prog 31 #[.pointer (some ⟨R, 0, none⟩), .int .i64 t, .int .i64 1, .int .i64 10] w fun e w' => e = .returned (.int .i64 0) ∧ (∃ T c, RunG w' R (some ⟨T, 0, none⟩) c m ticks (onePin m) (enterL l t m) ∧ (ad = some ⟨T, 0, none⟩ ∨ w.heap.size ≤ T)) ∧ Upd (rS R ad) w w' := by
  have HV := Lib.hid (valueG_is w)
  have HF := Lib.hid (find_is h t)
  rw [ht, ptrG_none] at HF
  have HE := Lib.hid (enterG_is h t hm hl rfl (onePin_ok hm))
  clear h ht
  go_enter Tryz.func31, Tryz.ntmps31
  go_wp2_with (first | (go_at_call 64; refine HV.out.mono ?_; rintro e1 w1 ⟨rfl, rfl⟩) | (go_at_call 65; refine HF.out.mono ?_; rintro e1 w1 ⟨rfl, rfl⟩) | (go_at_call 66; refine HE.out.mono ?_; rintro e1 w1 ⟨rfl, hr1, hu1⟩; have HR1 := Lib.hid hr1; have HU1 := Lib.hid hu1; clear hr1 hu1))
  go_ret
  exact ⟨rfl, HR1.out, HU1.out⟩
theorem snew1_is (w : World) : Calls Tryz.prog 28 #[.int .i64 1] w fun e w' => e = .returned (.tuple #[.pointer (some ⟨w.heap.size, 0, none⟩), .int .i64 0]) ∧ Below w.heap.size w w' ∧ w'.heap.size = w.heap.size + 1 ∧ RunG w' w.heap.size none 0 1 0 (onePin 1) [] := snewG_is w (m := 1) (by decide) (by decide)
theorem enter1 : enterL [] 1 1 = [⟨1, 0, true, 0⟩] := by rfl
theorem add1_is (h : RunG w R none 0 1 0 (onePin 1) []) : Calls Tryz.prog 31 #[.pointer (some ⟨R, 0, none⟩), .int .i64 1, .int .i64 1, .int .i64 10] w fun e w' => e = .returned (.int .i64 0) ∧ (∃ T c, RunG w' R (some ⟨T, 0, none⟩) c 1 0 (onePin 1) [⟨1, 0, true, 0⟩] ∧ w.heap.size ≤ T) ∧ Upd (fun k => k = R) w w' := by
  refine (addG_is (m := 1) h (t := 1) (by decide) (by decide) rfl (by decide) (by decide)).mono ?_
  rintro e w' ⟨rfl, ⟨T, c, hr, hT⟩, hu⟩
  rw [enter1] at hr
  refine ⟨rfl, ⟨T, c, hr, ?_⟩, hu.mono fun k _ e => ?_⟩
  · rcases hT with q | q
    · cases q
    · exact q
  · rcases e with e | ⟨a, e, _⟩
    · exact e
    · cases e
end
end Go.Proofs.YthioadiiedlmfaaGreatDoor
