/- The walks of spread's enter, Add at any run. The walks of spread's New, Add at any run. A table of processes: in plain numbers. No program here. -/
import Derived.Test.YtnbhohaphmilmaaGreatDoorSprE
import Derived.Deep.RegionHeld3
import Derived.Test.YtnbhohaphmilmaaGreatDoorCodeRow
namespace Go.Proofs.YtnbhohaphmilmaaGreatDoor
open Go.RowKit
set_option linter.unusedVariables false
set_option linter.unusedSimpArgs false
def tX (t v pin : Int) : Array Value := #[.int .i64 t, .int .i64 1, .int .i64 10, .int .i64 0, .int .i64 0, .int .i64 0, .int .i64 0, .int .i64 0, .int .i64 0, .int .i64 v, .int .i64 0, .int .i64 pin, .bool true, .bool false, .int .i64 0]
theorem tX_in (t v pin : Int) : TkIn (tX t v pin) 0 pin ⟨t, v, true, 0⟩ := ⟨rfl, rfl, rfl, rfl, rfl, rfl, rfl, rfl, rfl, rfl, ⟨0, rfl⟩, rfl, rfl, rfl, rfl⟩
theorem bsT_any (w : World) (t v pin : Int) : (bsT #[(0, .agg (tX t v pin))]).run Tryz.prog w = .ok (.slice (some ⟨w.heap.size, 0, none⟩) 1 1) (w.alloc (.cells (tX t v pin) 216)) := by kernel_rfl
def ixT (x i : Value) : Sem Value := Instr.indexAt 207 x i
theorem ix_task (x i : Value) : Instr.indexAt 207 x i = ixT x i := rfl
theorem ixT_run (w : World) (T c n : Nat) : (ixT (.slice (some ⟨T, 0, none⟩) (n + 1) c) (.int .i64 n)).run Tryz.prog w = .ok (.pointer (some ⟨T, n * 15, none⟩)) w := by
  have h0 : (0 : Int) ≤ n := by omega
  have h1 : (n : Int) < (n : Int) + 1 := by omega
  simp [ixT, Instr.indexAt, go_sem, run_underlying Tryz.underlying207, h0, h1]
/-- the tasks behind an entry -/
def enterL (l : List Tk) (t : Int) (m : Nat) : List Tk := fillG (l ++ [⟨t, (lowG l l.length).getD 0, true, -1⟩]) m
section
variable {w w' : World} {R cap : Nat} {ad : Option Addr} {cpus ticks pin : Int} {l : List Tk} {T i : Nat} {C X : Array Value} {x : Tk}
attribute [local go_sem ↓] ld_task bs_task ix_task
set_option maxRecDepth 100000 in
set_option maxHeartbeats 1000000 in
theorem enterG_is {m : Nat} (h : RunG w R ad cap m ticks pin l) (t : Int) (hm : m ≤ 8) (hl : l.length < 1000) (hpin : wrap64 (wrap64 (2 ^ m) - 1) = pin) (hp : ∀ c, c < m → pinOk pin c) :
    Calls Tryz.prog 80 #[.pointer (some ⟨R, 0, none⟩), .agg #[.int .i64 t, .int .i64 1, .int .i64 10, .int .i64 0, .int .i64 0, .int .i64 0, .int .i64 0, .int .i64 0, .int .i64 0, .int .i64 0, .int .i64 0, .int .i64 0, .bool false, .bool false, .int .i64 0]] w fun e w' => e = .returned (.tuple #[]) ∧ (∃ T c, RunG w' R (some ⟨T, 0, none⟩) c m ticks pin (enterL l t m) ∧ (ad = some ⟨T, 0, none⟩ ∨ w.heap.size ≤ T)) ∧ Upd (rS R ad) w w' := by
  have c0 := h.c0
  have HH := Lib.hid h
  have hne : ¬ R = w.heap.size := by have := h.lt; omega
  have hm0 : (0 : Int) ≤ m := by omega
  have hm1 : (m : Int) ≤ 8 := by omega
  have d0 : ∀ C : Array Value, (w.alloc (.cells C 216)).cell? ⟨R, 0, none⟩ = some (.int .i64 m) := fun C => (h.keep (Go.Joins.below_alloc1 w _)).c0
  have HP := Lib.hid (And.intro hp hl)
  clear h hp hl
  go_enter Tryz.func80, Tryz.ntmps80
  go_upto_region 2 with fail
  have HR1 : Hid (Row (w.alloc (.cells (tX t 0 pin) 216)) w.heap.size 216 (tX t 0 pin)) := Lib.hid (row_new w _ _)
  have HB1 := Lib.hid (Go.Joins.below_alloc1 w (.cells (tX t 0 pin) 216))
  have HQ1 := Lib.hid (HH.out.keep HB1.out)
  (try rw [hpin])
  change Code.wp _ _ _ _ (w.alloc (.cells (tX t 0 pin) 216))
  generalize hw1 : w.alloc (.cells (tX t 0 pin) 216) = w1 at *
  clear d0 c0 hw1
  have HLO := Lib.hid (lowG_is HQ1.out)
  obtain ⟨o, ho⟩ : ∃ o, o = lowG l l.length := ⟨_, rfl⟩
  have HLE : Hid (enterL l t m = fillG (l ++ [⟨t, o.getD 0, true, -1⟩]) m) := Lib.hid (by rw [ho]; rfl)
  rw [← ho] at HLO
  clear ho
  go_upto_region 3 with (go_at_call 146; refine HLO.out.mono ?_; rintro e2 w2 ⟨rfl, hb2⟩)
  have HR2 := Lib.hid (HR1.out.keep hb2)
  have HQ2 := Lib.hid (HQ1.out.keep hb2)
  have HB2 := Lib.hid (HB1.out.trans (hb2.mono HB1.out.size))
  have HLT := Lib.hid HH.out.lt
  clear hb2 HLO HR1 HB1 HQ1
  have x1 := HR2.out.cell 1
  have x9 := HR2.out.cell 9
  have f9 := HR2.out.fz 9
  rw [show (tX t 0 pin)[1]? = some (.int .i64 1) from rfl] at x1
  rw [show (tX t 0 pin)[9]? = some (.int .i64 0) from rfl] at x9
  cases o with
  | none =>
    rw [show lowB none = .bool false from rfl, show lowN none = .int .i64 0 from rfl]
    go_upto_region 5 with fail
    have HR3 := HR2
    have HQ3 := HQ2
    have HB3 := HB2
    generalize w2 = w3 at *
    clear x1 x9 f9 HR2 HQ2 HB2
    obtain ⟨n, hn⟩ : ∃ n, n = l.length := ⟨_, rfl⟩
    have hal := Go.Joins.below_alloc1 w3 (.cells (tX t 0 pin) 216)
    obtain ⟨T, c, w4, hap, hG4, ⟨u3, e3⟩, f3, hT, hU4⟩ := app_any HQ3.out.drew (tX_in t 0 pin) rfl HP.out.2
    have hap : (Builtin.append_ #[207, 207] 207 #[.slice ad l.length cap, .slice (some ⟨w3.heap.size, 0, none⟩) 1 1]).run Tryz.prog ((w3.alloc (.cells (tX t 0 pin) 216)).drew) = .ok (.slice (some ⟨T, 0, none⟩) (l.length + 1) c) w4 := hap
    have c3 := HQ3.out.c3
    have d3 := (HQ3.out.keep hal).c3
    have l3 := HR3.out.ld0 (d := _) Tryz.underlying216 rfl (by kernel_rfl)
    have l3d := HR3.out.drew.ld0 (d := _) Tryz.underlying216 rfl (by kernel_rfl)
    have l4 := (HR3.out.keep hal).ld0 (d := _) Tryz.underlying216 rfl (by kernel_rfl)
    have l4d := (HR3.out.keep hal).drew.ld0 (d := _) Tryz.underlying216 rfl (by kernel_rfl)
    have hbs := fun w => bsT_any w t 0 pin
    have HG4 := Lib.hid hG4
    have HT3 : Hid (ad = some ⟨T, 0, none⟩ ∨ w.heap.size ≤ T) := Lib.hid (by rcases hT with q | q; exact .inl q; exact .inr (Nat.le_trans HB3.out.size q))
    have HU5 := Lib.hid (((Upd.below HB3.out).trans ((Upd.drew w3).trans hU4)).trans (Upd.set w4 (i := 3) (.slice (some ⟨T, 0, none⟩) (l.length + 1) c) (S := rS R ad) (b := R) (.inl rfl)))
    have HX : Hid ((l ++ [(⟨t, 0, true, 0⟩ : Tk)])[l.length]? = some ⟨t, 0, true, 0⟩) := Lib.hid (by simp)
    have HLL : Hid ((l ++ [(⟨t, 0, true, 0⟩ : Tk)]).length = l.length + 1) := Lib.hid (by simp)
    have HLS : Hid ((l ++ [(⟨t, 0, true, 0⟩ : Tk)]).set l.length ⟨t, 0, true, -1⟩ = l ++ [⟨t, 0, true, -1⟩]) := Lib.hid (by simp)
    have hmx := HQ3.out.mx
    rw [← hn] at hap c3 d3 HG4 HU5 HX HLL HLS hmx
    have HN := Lib.hid hn
    clear hG4 hT hU4 hal hn HQ3 HR3 HB3
    have n0 : (0 : Int) ≤ n := by omega
    have n1 : (n : Int) < (n : Int) + 1 := by omega
    have n2 : IntKind.i64.wrap (n : Int) = n := IntWalk.i64_in _ (by omega)
    generalize tX t 0 pin = A at *
    have hix := fun w => ixT_run w T c n
    go_region_law (refine step_append_run rfl (.tmp 31) (.tmp 33) 207 rfl hap ?_)
    all_goals
      clear hap c3 d3 l3 l3d l4 l4d hbs e3 f3
      generalize w4.setCell ⟨R, 3, none⟩ (.slice (some ⟨T, 0, none⟩) (n + 1) c) = w5 at *
      have c3 : w5.cell? ⟨R, 3, none⟩ = some (.slice (some ⟨T, 0, none⟩) (n + 1) c) := by have := HG4.out.c3; rwa [HLL.out] at this
      have HWT := Lib.hid (waitG_is HG4.out.drew HX.out)
      go_upto_region 6 with fail
      go_region_held3 (fun wx => wx.cell? ⟨R, 3, none⟩ = some (.slice (some ⟨T, 0, none⟩) (n + 1) c)) (first | assumption | exact hS6) ((go_at_call 110; refine HWT.out.mono ?_; rintro e6 w6 ⟨rfl, hr6, hu6⟩; have hS6 : w6.cell? ⟨R, 3, none⟩ = some (.slice (some ⟨T, 0, none⟩) (n + 1) c) := (by have := hr6.c3; rwa [List.length_set, HLL.out] at this)))
      clear hS6
      rw [HLS.out] at hr6
      have HU6 := Lib.hid (HU5.out.trans' ((Upd.drew w5).trans hu6) (fun k hk e => by
        rcases e with e | ⟨a, e1, e2⟩
        · exact .inl e
        · injection e1 with e1
          subst e1
          rcases HT3.out with q | q
          · exact .inr ⟨_, q, e2⟩
          · have e2 : k = T := e2
            omega))
      have HFI := Lib.hid (fillG_is hr6 HP.out.1 (by omega))
      clear hr6 hu6 c3 HWT
      go_wp2_with (go_at_call 111; refine HFI.out.mono ?_; rintro e7 w7 ⟨rfl, hr7, hu7⟩; have HR7 := Lib.hid hr7; have HU7 := Lib.hid (HU6.out.trans' hu7 (fun k hk e => by
        rcases e with e | ⟨a, e1, e2⟩
        · exact .inl e
        · injection e1 with e1
          subst e1
          rcases HT3.out with q | q
          · exact .inr ⟨_, q, e2⟩
          · have e2 : k = T := e2
            omega)); clear hr7 hu7)
      (try simp only [Exit.inBlock, Exit.then]); first | (refine bodyPost_ret (results_none rfl _ _ _) rfl ?_) | (refine bodyPost_end (results_none rfl _ _ _) rfl ?_)
      exact ⟨rfl, ⟨_, _, by rw [HLE.out]; exact HR7.out, HT3.out⟩, HU7.out⟩
  | some v =>
    rw [show lowB (some v) = .bool true from rfl, show lowN (some v) = .int .i64 v from rfl]
    go_upto_region 5 with fail
    have HU0 : Hid (Upd (fun k => k = w.heap.size) w2 (w2.setCell ⟨w.heap.size, 9, none⟩ (.int .i64 v))) := Lib.hid (Upd.set _ _ rfl)
    have HR3 : Hid (Row (w2.setCell ⟨w.heap.size, 9, none⟩ (.int .i64 v)) w.heap.size 216 (tX t v pin)) := Lib.hid (by rw [HR2.out.setCell]; exact HR2.out.setRow _)
    have HQ3 := Lib.hid (HQ2.out.upd HU0.out (fun e => hne e) (fun a e q => by
      rcases HH.out.row with ⟨q1, _⟩ | ⟨T, C, q1, q2⟩
      · rw [e] at q1; cases q1
      · rw [e] at q1; injection q1 with q1; subst q1; have := q2.row.lt; have q : T = w.heap.size := q; omega))
    have HB3 := Lib.hid (HB2.out.trans (HU0.out.toBelow (B := w.heap.size) HB2.out.size (fun k hk e => by omega)))
    clear HU0
    generalize w2.setCell ⟨w.heap.size, 9, none⟩ (.int .i64 v) = w3 at *
    clear x1 x9 f9 HR2 HQ2 HB2
    obtain ⟨n, hn⟩ : ∃ n, n = l.length := ⟨_, rfl⟩
    have hal := Go.Joins.below_alloc1 w3 (.cells (tX t v pin) 216)
    obtain ⟨T, c, w4, hap, hG4, ⟨u3, e3⟩, f3, hT, hU4⟩ := app_any HQ3.out.drew (tX_in t v pin) rfl HP.out.2
    have hap : (Builtin.append_ #[207, 207] 207 #[.slice ad l.length cap, .slice (some ⟨w3.heap.size, 0, none⟩) 1 1]).run Tryz.prog ((w3.alloc (.cells (tX t v pin) 216)).drew) = .ok (.slice (some ⟨T, 0, none⟩) (l.length + 1) c) w4 := hap
    have c3 := HQ3.out.c3
    have d3 := (HQ3.out.keep hal).c3
    have l3 := HR3.out.ld0 (d := _) Tryz.underlying216 rfl (by kernel_rfl)
    have l3d := HR3.out.drew.ld0 (d := _) Tryz.underlying216 rfl (by kernel_rfl)
    have l4 := (HR3.out.keep hal).ld0 (d := _) Tryz.underlying216 rfl (by kernel_rfl)
    have l4d := (HR3.out.keep hal).drew.ld0 (d := _) Tryz.underlying216 rfl (by kernel_rfl)
    have hbs := fun w => bsT_any w t v pin
    have HG4 := Lib.hid hG4
    have HT3 : Hid (ad = some ⟨T, 0, none⟩ ∨ w.heap.size ≤ T) := Lib.hid (by rcases hT with q | q; exact .inl q; exact .inr (Nat.le_trans HB3.out.size q))
    have HU5 := Lib.hid (((Upd.below HB3.out).trans ((Upd.drew w3).trans hU4)).trans (Upd.set w4 (i := 3) (.slice (some ⟨T, 0, none⟩) (l.length + 1) c) (S := rS R ad) (b := R) (.inl rfl)))
    have HX : Hid ((l ++ [(⟨t, v, true, 0⟩ : Tk)])[l.length]? = some ⟨t, v, true, 0⟩) := Lib.hid (by simp)
    have HLL : Hid ((l ++ [(⟨t, v, true, 0⟩ : Tk)]).length = l.length + 1) := Lib.hid (by simp)
    have HLS : Hid ((l ++ [(⟨t, v, true, 0⟩ : Tk)]).set l.length ⟨t, v, true, -1⟩ = l ++ [⟨t, v, true, -1⟩]) := Lib.hid (by simp)
    have hmx := HQ3.out.mx
    rw [← hn] at hap c3 d3 HG4 HU5 HX HLL HLS hmx
    have HN := Lib.hid hn
    clear hG4 hT hU4 hal hn HQ3 HR3 HB3
    have n0 : (0 : Int) ≤ n := by omega
    have n1 : (n : Int) < (n : Int) + 1 := by omega
    have n2 : IntKind.i64.wrap (n : Int) = n := IntWalk.i64_in _ (by omega)
    generalize tX t v pin = A at *
    have hix := fun w => ixT_run w T c n
    go_region_law (refine step_append_run rfl (.tmp 31) (.tmp 33) 207 rfl hap ?_)
    all_goals
      clear hap c3 d3 l3 l3d l4 l4d hbs e3 f3
      generalize w4.setCell ⟨R, 3, none⟩ (.slice (some ⟨T, 0, none⟩) (n + 1) c) = w5 at *
      have c3 : w5.cell? ⟨R, 3, none⟩ = some (.slice (some ⟨T, 0, none⟩) (n + 1) c) := by have := HG4.out.c3; rwa [HLL.out] at this
      have HWT := Lib.hid (waitG_is HG4.out.drew HX.out)
      go_upto_region 6 with fail
      go_region_held3 (fun wx => wx.cell? ⟨R, 3, none⟩ = some (.slice (some ⟨T, 0, none⟩) (n + 1) c)) (first | assumption | exact hS6) ((go_at_call 110; refine HWT.out.mono ?_; rintro e6 w6 ⟨rfl, hr6, hu6⟩; have hS6 : w6.cell? ⟨R, 3, none⟩ = some (.slice (some ⟨T, 0, none⟩) (n + 1) c) := (by have := hr6.c3; rwa [List.length_set, HLL.out] at this)))
      clear hS6
      rw [HLS.out] at hr6
      have HU6 := Lib.hid (HU5.out.trans' ((Upd.drew w5).trans hu6) (fun k hk e => by
        rcases e with e | ⟨a, e1, e2⟩
        · exact .inl e
        · injection e1 with e1
          subst e1
          rcases HT3.out with q | q
          · exact .inr ⟨_, q, e2⟩
          · have e2 : k = T := e2
            omega))
      have HFI := Lib.hid (fillG_is hr6 HP.out.1 (by omega))
      clear hr6 hu6 c3 HWT
      go_wp2_with (go_at_call 111; refine HFI.out.mono ?_; rintro e7 w7 ⟨rfl, hr7, hu7⟩; have HR7 := Lib.hid hr7; have HU7 := Lib.hid (HU6.out.trans' hu7 (fun k hk e => by
        rcases e with e | ⟨a, e1, e2⟩
        · exact .inl e
        · injection e1 with e1
          subst e1
          rcases HT3.out with q | q
          · exact .inr ⟨_, q, e2⟩
          · have e2 : k = T := e2
            omega)); clear hr7 hu7)
      (try simp only [Exit.inBlock, Exit.then]); first | (refine bodyPost_ret (results_none rfl _ _ _) rfl ?_) | (refine bodyPost_end (results_none rfl _ _ _) rfl ?_)
      exact ⟨rfl, ⟨_, _, by rw [HLE.out]; exact HR7.out, HT3.out⟩, HU7.out⟩
end
end Go.Proofs.YtnbhohaphmilmaaGreatDoor
namespace Go.Proofs.YtnbhohaphmilmaaGreatDoor
open Go.RowKit
set_option linter.unusedVariables false
set_option linter.unusedSimpArgs false
def onePin (m : Nat) : Int := wrap64 (wrap64 (2 ^ m) - 1)
theorem onePin_ok {m : Nat} (hm : m ≤ 8) : ∀ c, c < m → pinOk (onePin m) c := by
  have h : ∀ m, m < 9 → ∀ c, c < m → bits .and .i64 (onePin m / 2 ^ c) 1 = 1 := by decide +kernel
  exact fun c hc => h m (by omega) c hc
section
variable {w w' : World} {R cap : Nat} {ad : Option Addr} {cpus ticks pin : Int} {l : List Tk}
set_option maxRecDepth 100000 in
set_option maxHeartbeats 400000 in
theorem snewG_is (w : World) {m : Nat} (h1 : 1 ≤ m) (h8 : m ≤ 4) : Calls Tryz.prog 30 #[.int .i64 m] w fun e w' => e = .returned (.tuple #[.pointer (some ⟨w.heap.size, 0, none⟩), .int .i64 0]) ∧ Below w.heap.size w w' ∧ w'.heap.size = w.heap.size + 1 ∧ RunG w' w.heap.size none 0 m 0 (onePin m) [] := by
  have hr := row_new w 209 #[.int .i64 m, .int .i64 0, .int .i64 0, .slice none 0 0]
  have HQ : Hid (RunG (w.alloc (.cells #[.int .i64 m, .int .i64 0, .int .i64 0, .slice none 0 0] 209)) w.heap.size none 0 m 0 (onePin m) []) := Lib.hid ⟨hr.lt, hr.fz, by rw [hr.cell]; rfl, by rw [hr.cell]; rfl, ⟨0, by rw [hr.cell]; rfl⟩, by rw [hr.cell]; rfl, .inl ⟨rfl, rfl, rfl⟩⟩
  clear hr
  have : m = 1 ∨ m = 2 ∨ m = 3 ∨ m = 4 := by omega
  rcases this with rfl | rfl | rfl | rfl
  all_goals
    clear h1 h8
    go_enter Tryz.func30, Tryz.ntmps30
    go_wp2_with fail
    go_ret2
    exact ⟨rfl, Go.Joins.below_alloc1 w _, by simp, HQ.out⟩
set_option maxRecDepth 100000 in
set_option maxHeartbeats 400000 in
theorem valueG_is (w : World) : Calls Tryz.prog 78 #[.int .i64 1, .int .i64 10] w fun e w' => e = .returned (.bool true) ∧ w = w' := by
  go_enter Tryz.func78, Tryz.ntmps78
  go_wp2_with fail
  go_ret
  exact ⟨rfl, rfl⟩
set_option maxRecDepth 100000 in
set_option maxHeartbeats 400000 in
theorem addG_is {m : Nat} (h : RunG w R ad cap m ticks (onePin m) l) {t : Int} (h1 : 1 ≤ t) (h2 : t ≤ 16) (ht : idG l t = none) (hm : m ≤ 8) (hl : l.length < 1000) : Calls Tryz.prog 33 #[.pointer (some ⟨R, 0, none⟩), .int .i64 t, .int .i64 1, .int .i64 10] w fun e w' => e = .returned (.int .i64 0) ∧ (∃ T c, RunG w' R (some ⟨T, 0, none⟩) c m ticks (onePin m) (enterL l t m) ∧ (ad = some ⟨T, 0, none⟩ ∨ w.heap.size ≤ T)) ∧ Upd (rS R ad) w w' := by
  have HV := Lib.hid (valueG_is w)
  have HF := Lib.hid (find_is h t)
  rw [ht, ptrG_none] at HF
  have HE := Lib.hid (enterG_is h t hm hl rfl (onePin_ok hm))
  clear h ht
  go_enter Tryz.func33, Tryz.ntmps33
  go_wp2_with (first | (go_at_call 78; refine HV.out.mono ?_; rintro e1 w1 ⟨rfl, rfl⟩) | (go_at_call 79; refine HF.out.mono ?_; rintro e1 w1 ⟨rfl, rfl⟩) | (go_at_call 80; refine HE.out.mono ?_; rintro e1 w1 ⟨rfl, hr1, hu1⟩; have HR1 := Lib.hid hr1; have HU1 := Lib.hid hu1; clear hr1 hu1))
  go_ret
  exact ⟨rfl, HR1.out, HU1.out⟩
theorem snew1_is (w : World) : Calls Tryz.prog 30 #[.int .i64 1] w fun e w' => e = .returned (.tuple #[.pointer (some ⟨w.heap.size, 0, none⟩), .int .i64 0]) ∧ Below w.heap.size w w' ∧ w'.heap.size = w.heap.size + 1 ∧ RunG w' w.heap.size none 0 1 0 (onePin 1) [] := snewG_is w (m := 1) (by decide) (by decide)
theorem enter1G : ∀ m, m < 5 → 1 ≤ m → enterL [] 1 m = [⟨1, 0, true, 0⟩] := by
  intro m h1 h2
  have : m = 1 ∨ m = 2 ∨ m = 3 ∨ m = 4 := by omega
  rcases this with rfl | rfl | rfl | rfl <;> rfl
theorem add1G {m : Nat} (h : RunG w R none 0 m 0 (onePin m) []) (m1 : 1 ≤ m) (m4 : m ≤ 4) : Calls Tryz.prog 33 #[.pointer (some ⟨R, 0, none⟩), .int .i64 1, .int .i64 1, .int .i64 10] w fun e w' => e = .returned (.int .i64 0) ∧ (∃ T c, RunG w' R (some ⟨T, 0, none⟩) c m 0 (onePin m) [⟨1, 0, true, 0⟩] ∧ w.heap.size ≤ T) ∧ Upd (fun k => k = R) w w' := by
  refine (addG_is h (t := 1) (by decide) (by decide) rfl (by omega) (by decide)).mono ?_
  rintro e w' ⟨rfl, ⟨T, c, hr, hT⟩, hu⟩
  rw [enter1G m (by omega) m1] at hr
  refine ⟨rfl, ⟨T, c, hr, ?_⟩, hu.mono fun k _ e => ?_⟩
  · rcases hT with q | q
    · cases q
    · exact q
  · rcases e with e | ⟨a, e, _⟩
    · exact e
    · cases e
theorem enter1 : enterL [] 1 1 = [⟨1, 0, true, 0⟩] := by rfl
theorem add1_is (h : RunG w R none 0 1 0 (onePin 1) []) : Calls Tryz.prog 33 #[.pointer (some ⟨R, 0, none⟩), .int .i64 1, .int .i64 1, .int .i64 10] w fun e w' => e = .returned (.int .i64 0) ∧ (∃ T c, RunG w' R (some ⟨T, 0, none⟩) c 1 0 (onePin 1) [⟨1, 0, true, 0⟩] ∧ w.heap.size ≤ T) ∧ Upd (fun k => k = R) w w' := by
  refine (addG_is (m := 1) h (t := 1) (by decide) (by decide) rfl (by decide) (by decide)).mono ?_
  rintro e w' ⟨rfl, ⟨T, c, hr, hT⟩, hu⟩
  rw [enter1] at hr
  refine ⟨rfl, ⟨T, c, hr, ?_⟩, hu.mono fun k _ e => ?_⟩
  · rcases hT with q | q
    · cases q
    · exact q
  · rcases e with e | ⟨a, e, _⟩
    · exact e
    · cases e
end
end Go.Proofs.YtnbhohaphmilmaaGreatDoor
namespace Go.Proofs.YtnbhohaphmilmaaGreatDoor.ProcLaw
set_option linter.unusedSimpArgs false
set_option linter.unusedVariables false

structure E where
  st : Int
  par : Int
  gr : Int
  code : Int
abbrev T := Nat → E
abbrev e0 : E := ⟨0, 0, 0, 0⟩
def updE (t : T) (k : Nat) (e : E) : T := fun j => if j = k then e else t j
theorem updE_same (t : T) (k : Nat) (e : E) : updE t k e k = e := by simp [updE]
theorem updE_other (t : T) {k j : Nat} (e : E) (h : j ≠ k) : updE t k e j = t j := by simp [updE, h]
/-- entry 1 lives, none else is there -/
def start : T := updE (fun _ => e0) 1 ⟨1, 0, 1, 0⟩

def alive (t : T) (p : Nat) : Prop := 1 ≤ p ∧ p ≤ 16 ∧ (t p).st = 1
def forked (t : T) (k p : Nat) : T := updE t k ⟨1, p, (t p).gr, 0⟩
def orphan (p : Nat) (e : E) : E := if e.st ≠ 0 ∧ e.par = p then ⟨e.st, 1, e.gr, e.code⟩ else e
/-- the first k entries lose their parent p -/
def lost (t : T) (p k : Nat) : T := fun j => if j < k then orphan p (t j) else t j
def ended (t : T) (p : Nat) (c : Int) : T := updE (lost t p 17) p ⟨2, (lost t p 17 p).par, (lost t p 17 p).gr, c⟩

theorem orphan_st (p : Nat) (e : E) : (orphan p e).st = e.st := by unfold orphan; split <;> rfl
theorem lost_st (t : T) (p k j : Nat) : (lost t p k j).st = (t j).st := by unfold lost; split; exact orphan_st _ _; rfl
theorem lost_zero (t : T) (p : Nat) : lost t p 0 = t := by funext j; simp [lost]
theorem lost_next (t : T) (p k : Nat) : lost t p (k + 1) = updE (lost t p k) k (orphan p (t k)) := by
  funext j
  by_cases h : j = k
  · subst h; simp [lost, updE]
  · simp only [lost, updE, if_neg h]
    by_cases h2 : j < k
    · rw [if_pos h2, if_pos (by omega)]
    · rw [if_neg h2, if_neg (by omega)]
theorem lost_at (t : T) (p k : Nat) : lost t p k k = t k := by simp [lost]

/-- how many from 2 to 16 are not free -/
def cnt (t : T) : Nat := (List.range 15).countP (fun i => decide ((t (i + 2)).st ≠ 0))

structure Inv (t : T) : Prop where
  z : (t 0).st = 0
  o : (t 1).st = 1
  r : ∃ r : Nat → Nat, r 1 = 0 ∧ ∀ k, 2 ≤ k → k ≤ 16 → (t k).st ≠ 0 → ∃ q : Nat, (t k).par = q ∧ 1 ≤ q ∧ q ≤ 16 ∧ (t q).st = 1 ∧ r q < r k

theorem start_inv : Inv start := by
  refine ⟨rfl, rfl, fun _ => 0, rfl, fun k h1 h2 h => absurd ?_ h⟩
  rw [start, updE_other _ _ (by omega)]
theorem start_cnt : cnt start = 0 := by decide

theorem countP_add (l : List Nat) (hn : l.Nodup) (f g : Nat → Bool) (k : Nat) (hk : k ∈ l) (hf : f k = false) (hg : g k = true) (h : ∀ j, j ≠ k → f j = g j) : l.countP g = l.countP f + 1 := by
  induction l with
  | nil => cases hk
  | cons x t ih =>
    rw [List.nodup_cons] at hn
    by_cases hx : x = k
    · subst hx
      rw [List.countP_cons_of_pos hg, List.countP_cons_of_neg (by simp [hf])]
      congr 1
      apply List.countP_congr
      intro y hy
      rw [h y (fun e => hn.1 (e ▸ hy))]
    · have hk' : k ∈ t := by
        rcases List.mem_cons.1 hk with h | h
        · exact absurd h.symm hx
        · exact h
      have := ih hn.2 hk'
      have e := h x hx
      by_cases hgx : g x = true
      · rw [List.countP_cons_of_pos hgx, List.countP_cons_of_pos (by rw [e]; exact hgx)]; omega
      · rw [List.countP_cons_of_neg hgx, List.countP_cons_of_neg (by rw [e]; exact hgx)]; omega
theorem cnt_up {t t' : T} {k : Nat} (h1 : 2 ≤ k) (h2 : k ≤ 16) (hf : (t k).st = 0) (hg : (t' k).st ≠ 0) (h : ∀ j, j ≠ k → ((t j).st ≠ 0 ↔ (t' j).st ≠ 0)) : cnt t' = cnt t + 1 := by
  unfold cnt
  apply countP_add _ List.nodup_range _ _ (k - 2) (List.mem_range.2 (by omega))
  · simp [show k - 2 + 2 = k by omega, hf]
  · simp [show k - 2 + 2 = k by omega, hg]
  · intro j hj
    have := h (j + 2) (by omega)
    simp only [decide_eq_decide]
    exact this
theorem cnt_same {t t' : T} (h : ∀ j, ((t j).st ≠ 0 ↔ (t' j).st ≠ 0)) : cnt t' = cnt t := by
  unfold cnt
  congr 1
  funext i
  simp only [decide_eq_decide]
  exact (h (i + 2)).symm

theorem fork_cnt {t : T} {k p : Nat} (hi : Inv t) (h1 : 1 ≤ k) (h2 : k ≤ 16) (hf : (t k).st = 0) : cnt (forked t k p) = cnt t + 1 := by
  have hk : k ≠ 1 := by rintro rfl; rw [hi.o] at hf; cases hf
  refine cnt_up (by omega) h2 hf (by rw [forked, updE_same]; simp) fun j hj => ?_
  rw [forked, updE_other _ _ hj]
theorem fork_inv {t : T} {k p : Nat} (hi : Inv t) (h1 : 1 ≤ k) (h2 : k ≤ 16) (hf : (t k).st = 0) (hp : alive t p) : Inv (forked t k p) := by
  have hk : k ≠ 1 := by rintro rfl; rw [hi.o] at hf; cases hf
  obtain ⟨p1, p2, p3⟩ := hp
  have hpk : p ≠ k := by rintro rfl; rw [hf] at p3; cases p3
  obtain ⟨r, r1, hr⟩ := hi.r
  refine ⟨?_, ?_, fun j => if j = k then r p + 1 else r j, ?_, fun j j1 j2 hj => ?_⟩
  · rw [forked, updE_other _ _ (by omega)]; exact hi.z
  · rw [forked, updE_other _ _ (by omega)]; exact hi.o
  · simp only [if_neg (Ne.symm hk)]; exact r1
  · by_cases hjk : j = k
    · subst hjk
      refine ⟨p, by rw [forked, updE_same], p1, p2, by rw [forked, updE_other _ _ hpk]; exact p3, ?_⟩
      simp [hpk]
    · rw [forked, updE_other _ _ hjk] at hj ⊢
      obtain ⟨q, q1, q2, q3, q4, q5⟩ := hr j j1 j2 hj
      have hqk : q ≠ k := by rintro rfl; rw [hf] at q4; cases q4
      refine ⟨q, q1, q2, q3, by rw [updE_other _ _ hqk]; exact q4, ?_⟩
      simp [hqk, hjk, q5]
theorem ended_st (t : T) (p : Nat) (c : Int) (j : Nat) : (ended t p c j).st = if j = p then 2 else (t j).st := by
  unfold ended
  by_cases h : j = p
  · subst h; rw [updE_same, if_pos rfl]
  · rw [updE_other _ _ h, if_neg h, lost_st]
theorem exit_cnt {t : T} {p : Nat} {c : Int} (hp : alive t p) : cnt (ended t p c) = cnt t := by
  refine cnt_same fun j => ?_
  rw [ended_st]
  by_cases h : j = p
  · subst h; rw [if_pos rfl, hp.2.2]; simp
  · rw [if_neg h]
theorem ended_par (t : T) (p : Nat) (c : Int) (j : Nat) (hj : j < 17) : (ended t p c j).par = (orphan p (t j)).par := by
  unfold ended
  by_cases h : j = p
  · subst h; rw [updE_same]; simp [lost, hj]
  · rw [updE_other _ _ h]; simp [lost, hj]
theorem exit_inv {t : T} {p : Nat} {c : Int} (hi : Inv t) (hp : alive t p) (h1 : p ≠ 1) : Inv (ended t p c) := by
  obtain ⟨r, r1, hr⟩ := hi.r
  obtain ⟨p1, p2, p3⟩ := hp
  refine ⟨?_, ?_, r, r1, fun j j1 j2 hj => ?_⟩
  · rw [ended_st, if_neg (by omega)]; exact hi.z
  · rw [ended_st, if_neg (Ne.symm h1)]; exact hi.o
  · have hj' : (t j).st ≠ 0 := by
      rw [ended_st] at hj
      by_cases h : j = p
      · subst h; rw [p3]; decide
      · rw [if_neg h] at hj; exact hj
    obtain ⟨q, q1, q2, q3, q4, q5⟩ := hr j j1 j2 hj'
    rw [ended_par _ _ _ _ (by omega)]
    by_cases hq : q = p
    · refine ⟨1, ?_, by omega, by omega, ?_, by omega⟩
      · rw [orphan, if_pos ⟨hj', by rw [q1, hq]⟩]; rfl
      · rw [ended_st, if_neg (Ne.symm h1)]; exact hi.o
    · refine ⟨q, ?_, q2, q3, ?_, q5⟩
      · rw [orphan, if_neg (fun h => hq (by have := h.2; rw [q1] at this; omega))]; exact q1
      · rw [ended_st, if_neg hq]; exact q4
theorem wait_cnt {t : T} {k : Nat} (h1 : 2 ≤ k) (h2 : k ≤ 16) (hk : (t k).st = 2) : cnt t = cnt (updE t k e0) + 1 := by
  refine cnt_up h1 h2 (by rw [updE_same]) (by rw [hk]; decide) fun j hj => ?_
  rw [updE_other _ _ hj]
theorem wait_two {t : T} {k : Nat} (hi : Inv t) (hk : (t k).st = 2) : 2 ≤ k := by
  have h0 : k ≠ 0 := by rintro rfl; rw [hi.z] at hk; cases hk
  have h1 : k ≠ 1 := by rintro rfl; rw [hi.o] at hk; cases hk
  omega
theorem wait_inv {t : T} {k : Nat} (hi : Inv t) (hk : (t k).st = 2) : Inv (updE t k e0) := by
  have h2 := wait_two hi hk
  obtain ⟨r, r1, hr⟩ := hi.r
  refine ⟨?_, ?_, r, r1, fun j j1 j2 hj => ?_⟩
  · rw [updE_other _ _ (by omega)]; exact hi.z
  · rw [updE_other _ _ (by omega)]; exact hi.o
  · by_cases hjk : j = k
    · subst hjk; rw [updE_same] at hj; exact absurd rfl hj
    · rw [updE_other _ _ hjk] at hj ⊢
      obtain ⟨q, q1, q2, q3, q4, q5⟩ := hr j j1 j2 hj
      have hqk : q ≠ k := by rintro rfl; rw [hk] at q4; cases q4
      exact ⟨q, q1, q2, q3, by rw [updE_other _ _ hqk]; exact q4, q5⟩

/-- how many that are there stand nearer to the first one -/
def near (t : T) (r : Nat → Nat) (u : Nat) : Nat := (List.range 17).countP (fun q => decide ((t q).st ≠ 0 ∧ r q < r u))
theorem countP_lt (l : List Nat) (f g : Nat → Bool) (h : ∀ j, f j = true → g j = true) (k : Nat) (hk : k ∈ l) (hf : f k = false) (hg : g k = true) : l.countP f < l.countP g := by
  induction l with
  | nil => cases hk
  | cons x t ih =>
    have hmono : t.countP f ≤ t.countP g := List.countP_mono_left fun j _ hj => h j hj
    rcases List.mem_cons.1 hk with rfl | hk'
    · rw [List.countP_cons_of_pos hg, List.countP_cons_of_neg (by simp [hf])]; omega
    · have := ih hk'
      by_cases hfx : f x = true
      · rw [List.countP_cons_of_pos hfx, List.countP_cons_of_pos (h x hfx)]; omega
      · rw [List.countP_cons_of_neg hfx]
        by_cases hgx : g x = true
        · rw [List.countP_cons_of_pos hgx]; omega
        · rw [List.countP_cons_of_neg hgx]; omega
theorem near_up {t : T} {r : Nat → Nat} {u q : Nat} (hq : q < 17) (hs : (t q).st ≠ 0) (hr : r q < r u) : near t r q < near t r u := by
  unfold near
  refine countP_lt _ _ _ (fun j hj => ?_) q (List.mem_range.2 hq) (by simp) (by simp [hs, hr])
  simp at hj ⊢
  exact ⟨hj.1, by omega⟩
theorem near_le {t : T} {r : Nat → Nat} {u : Nat} (hz : (t 0).st = 0) (hu1 : 1 ≤ u) (hu : u ≤ 16) : near t r u ≤ 15 := by
  have h1 : near t r u < (List.range 17).countP (fun q => decide (q ≠ 0)) := by
    unfold near
    refine countP_lt _ _ _ (fun j hj => ?_) u (List.mem_range.2 (by omega)) (by simp) (by simp; omega)
    simp at hj ⊢
    rintro rfl
    exact hj.1 hz
  have h2 : (List.range 17).countP (fun q => decide (q ≠ 0)) = 16 := by decide
  omega
end Go.Proofs.YtnbhohaphmilmaaGreatDoor.ProcLaw
