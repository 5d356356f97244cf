/- The walks of spread's enter, Add at any run. The walks of spread's New, Add at any run. The walk of spread's Leave at any run. -/
import Derived.Test.YtmdjkoiglghipaaGreatDoorSprE
import Derived.Deep.RegionHeld3
namespace Go.Proofs.YtmdjkoiglghipaaGreatDoor
open Go.RowKit
set_option linter.unusedVariables false
set_option linter.unusedSimpArgs false
def tX (t v pin : Int) : Array Value := #[.int .i64 t, .int .i64 1, .int .i64 10, .int .i64 0, .int .i64 0, .int .i64 0, .int .i64 0, .int .i64 0, .int .i64 0, .int .i64 v, .int .i64 0, .int .i64 pin, .bool true, .bool false, .int .i64 0]
theorem tX_in (t v pin : Int) : TkIn (tX t v pin) 0 pin ⟨t, v, true, 0⟩ := ⟨rfl, rfl, rfl, rfl, rfl, rfl, rfl, rfl, rfl, rfl, ⟨0, rfl⟩, rfl, rfl, rfl, rfl⟩
theorem bsT_any (w : World) (t v pin : Int) : (bsT #[(0, .agg (tX t v pin))]).run Tryz.prog w = .ok (.slice (some ⟨w.heap.size, 0, none⟩) 1 1) (w.alloc (.cells (tX t v pin) 201)) := by kernel_rfl
def ixT (x i : Value) : Sem Value := Instr.indexAt 193 x i
theorem ix_task (x i : Value) : Instr.indexAt 193 x i = ixT x i := rfl
theorem ixT_run (w : World) (T c n : Nat) : (ixT (.slice (some ⟨T, 0, none⟩) (n + 1) c) (.int .i64 n)).run Tryz.prog w = .ok (.pointer (some ⟨T, n * 15, none⟩)) w := by
  have h0 : (0 : Int) ≤ n := by omega
  have h1 : (n : Int) < (n : Int) + 1 := by omega
  simp [ixT, Instr.indexAt, go_sem, run_underlying Tryz.underlying193, h0, h1]
/-- the tasks behind an entry -/
def enterL (l : List Tk) (t : Int) (m : Nat) : List Tk := fillG (l ++ [⟨t, (lowG l l.length).getD 0, true, -1⟩]) m
section
variable {w w' : World} {R cap : Nat} {ad : Option Addr} {cpus ticks pin : Int} {l : List Tk} {T i : Nat} {C X : Array Value} {x : Tk}
attribute [local go_sem ↓] ld_task bs_task ix_task
set_option maxRecDepth 100000 in
set_option maxHeartbeats 1000000 in
theorem enterG_is {m : Nat} (h : RunG w R ad cap m ticks pin l) (t : Int) (hm : m ≤ 8) (hl : l.length < 1000) (hpin : wrap64 (wrap64 (2 ^ m) - 1) = pin) (hp : ∀ c, c < m → pinOk pin c) :
    Calls Tryz.prog 77 #[.pointer (some ⟨R, 0, none⟩), .agg #[.int .i64 t, .int .i64 1, .int .i64 10, .int .i64 0, .int .i64 0, .int .i64 0, .int .i64 0, .int .i64 0, .int .i64 0, .int .i64 0, .int .i64 0, .int .i64 0, .bool false, .bool false, .int .i64 0]] w fun e w' => e = .returned (.tuple #[]) ∧ (∃ T c, RunG w' R (some ⟨T, 0, none⟩) c m ticks pin (enterL l t m) ∧ (ad = some ⟨T, 0, none⟩ ∨ w.heap.size ≤ T)) ∧ Upd (rS R ad) w w' := by
  have c0 := h.c0
  have HH := Lib.hid h
  have hne : ¬ R = w.heap.size := by have := h.lt; omega
  have hm0 : (0 : Int) ≤ m := by omega
  have hm1 : (m : Int) ≤ 8 := by omega
  have d0 : ∀ C : Array Value, (w.alloc (.cells C 201)).cell? ⟨R, 0, none⟩ = some (.int .i64 m) := fun C => (h.keep (Go.Joins.below_alloc1 w _)).c0
  have HP := Lib.hid (And.intro hp hl)
  clear h hp hl
  go_enter Tryz.func77, Tryz.ntmps77
  go_upto_region 2 with fail
  have HR1 : Hid (Row (w.alloc (.cells (tX t 0 pin) 201)) w.heap.size 201 (tX t 0 pin)) := Lib.hid (row_new w _ _)
  have HB1 := Lib.hid (Go.Joins.below_alloc1 w (.cells (tX t 0 pin) 201))
  have HQ1 := Lib.hid (HH.out.keep HB1.out)
  (try rw [hpin])
  change Code.wp _ _ _ _ (w.alloc (.cells (tX t 0 pin) 201))
  generalize hw1 : w.alloc (.cells (tX t 0 pin) 201) = w1 at *
  clear d0 c0 hw1
  have HLO := Lib.hid (lowG_is HQ1.out)
  obtain ⟨o, ho⟩ : ∃ o, o = lowG l l.length := ⟨_, rfl⟩
  have HLE : Hid (enterL l t m = fillG (l ++ [⟨t, o.getD 0, true, -1⟩]) m) := Lib.hid (by rw [ho]; rfl)
  rw [← ho] at HLO
  clear ho
  go_upto_region 3 with (go_at_call 151; refine HLO.out.mono ?_; rintro e2 w2 ⟨rfl, hb2⟩)
  have HR2 := Lib.hid (HR1.out.keep hb2)
  have HQ2 := Lib.hid (HQ1.out.keep hb2)
  have HB2 := Lib.hid (HB1.out.trans (hb2.mono HB1.out.size))
  have HLT := Lib.hid HH.out.lt
  clear hb2 HLO HR1 HB1 HQ1
  have x1 := HR2.out.cell 1
  have x9 := HR2.out.cell 9
  have f9 := HR2.out.fz 9
  rw [show (tX t 0 pin)[1]? = some (.int .i64 1) from rfl] at x1
  rw [show (tX t 0 pin)[9]? = some (.int .i64 0) from rfl] at x9
  cases o with
  | none =>
    rw [show lowB none = .bool false from rfl, show lowN none = .int .i64 0 from rfl]
    go_upto_region 5 with fail
    have HR3 := HR2
    have HQ3 := HQ2
    have HB3 := HB2
    generalize w2 = w3 at *
    clear x1 x9 f9 HR2 HQ2 HB2
    obtain ⟨n, hn⟩ : ∃ n, n = l.length := ⟨_, rfl⟩
    have hal := Go.Joins.below_alloc1 w3 (.cells (tX t 0 pin) 201)
    obtain ⟨T, c, w4, hap, hG4, ⟨u3, e3⟩, f3, hT, hU4⟩ := app_any HQ3.out.drew (tX_in t 0 pin) rfl HP.out.2
    have hap : (Builtin.append_ #[193, 193] 193 #[.slice ad l.length cap, .slice (some ⟨w3.heap.size, 0, none⟩) 1 1]).run Tryz.prog ((w3.alloc (.cells (tX t 0 pin) 201)).drew) = .ok (.slice (some ⟨T, 0, none⟩) (l.length + 1) c) w4 := hap
    have c3 := HQ3.out.c3
    have d3 := (HQ3.out.keep hal).c3
    have l3 := HR3.out.ld0 (d := _) Tryz.underlying201 rfl (by kernel_rfl)
    have l3d := HR3.out.drew.ld0 (d := _) Tryz.underlying201 rfl (by kernel_rfl)
    have l4 := (HR3.out.keep hal).ld0 (d := _) Tryz.underlying201 rfl (by kernel_rfl)
    have l4d := (HR3.out.keep hal).drew.ld0 (d := _) Tryz.underlying201 rfl (by kernel_rfl)
    have hbs := fun w => bsT_any w t 0 pin
    have HG4 := Lib.hid hG4
    have HT3 : Hid (ad = some ⟨T, 0, none⟩ ∨ w.heap.size ≤ T) := Lib.hid (by rcases hT with q | q; exact .inl q; exact .inr (Nat.le_trans HB3.out.size q))
    have HU5 := Lib.hid (((Upd.below HB3.out).trans ((Upd.drew w3).trans hU4)).trans (Upd.set w4 (i := 3) (.slice (some ⟨T, 0, none⟩) (l.length + 1) c) (S := rS R ad) (b := R) (.inl rfl)))
    have HX : Hid ((l ++ [(⟨t, 0, true, 0⟩ : Tk)])[l.length]? = some ⟨t, 0, true, 0⟩) := Lib.hid (by simp)
    have HLL : Hid ((l ++ [(⟨t, 0, true, 0⟩ : Tk)]).length = l.length + 1) := Lib.hid (by simp)
    have HLS : Hid ((l ++ [(⟨t, 0, true, 0⟩ : Tk)]).set l.length ⟨t, 0, true, -1⟩ = l ++ [⟨t, 0, true, -1⟩]) := Lib.hid (by simp)
    have hmx := HQ3.out.mx
    rw [← hn] at hap c3 d3 HG4 HU5 HX HLL HLS hmx
    have HN := Lib.hid hn
    clear hG4 hT hU4 hal hn HQ3 HR3 HB3
    have n0 : (0 : Int) ≤ n := by omega
    have n1 : (n : Int) < (n : Int) + 1 := by omega
    have n2 : IntKind.i64.wrap (n : Int) = n := IntWalk.i64_in _ (by omega)
    generalize tX t 0 pin = A at *
    have hix := fun w => ixT_run w T c n
    go_region_law (refine step_append_run rfl (.tmp 31) (.tmp 33) 193 rfl hap ?_)
    all_goals
      clear hap c3 d3 l3 l3d l4 l4d hbs e3 f3
      generalize w4.setCell ⟨R, 3, none⟩ (.slice (some ⟨T, 0, none⟩) (n + 1) c) = w5 at *
      have c3 : w5.cell? ⟨R, 3, none⟩ = some (.slice (some ⟨T, 0, none⟩) (n + 1) c) := by have := HG4.out.c3; rwa [HLL.out] at this
      have HWT := Lib.hid (waitG_is HG4.out.drew HX.out)
      go_upto_region 6 with fail
      go_region_held3 (fun wx => wx.cell? ⟨R, 3, none⟩ = some (.slice (some ⟨T, 0, none⟩) (n + 1) c)) (first | assumption | exact hS6) ((go_at_call 152; refine HWT.out.mono ?_; rintro e6 w6 ⟨rfl, hr6, hu6⟩; have hS6 : w6.cell? ⟨R, 3, none⟩ = some (.slice (some ⟨T, 0, none⟩) (n + 1) c) := (by have := hr6.c3; rwa [List.length_set, HLL.out] at this)))
      clear hS6
      rw [HLS.out] at hr6
      have HU6 := Lib.hid (HU5.out.trans' ((Upd.drew w5).trans hu6) (fun k hk e => by
        rcases e with e | ⟨a, e1, e2⟩
        · exact .inl e
        · injection e1 with e1
          subst e1
          rcases HT3.out with q | q
          · exact .inr ⟨_, q, e2⟩
          · have e2 : k = T := e2
            omega))
      have HFI := Lib.hid (fillG_is hr6 HP.out.1 (by omega))
      clear hr6 hu6 c3 HWT
      go_wp2_with (go_at_call 153; refine HFI.out.mono ?_; rintro e7 w7 ⟨rfl, hr7, hu7⟩; have HR7 := Lib.hid hr7; have HU7 := Lib.hid (HU6.out.trans' hu7 (fun k hk e => by
        rcases e with e | ⟨a, e1, e2⟩
        · exact .inl e
        · injection e1 with e1
          subst e1
          rcases HT3.out with q | q
          · exact .inr ⟨_, q, e2⟩
          · have e2 : k = T := e2
            omega)); clear hr7 hu7)
      (try simp only [Exit.inBlock, Exit.then]); first | (refine bodyPost_ret (results_none rfl _ _ _) rfl ?_) | (refine bodyPost_end (results_none rfl _ _ _) rfl ?_)
      exact ⟨rfl, ⟨_, _, by rw [HLE.out]; exact HR7.out, HT3.out⟩, HU7.out⟩
  | some v =>
    rw [show lowB (some v) = .bool true from rfl, show lowN (some v) = .int .i64 v from rfl]
    go_upto_region 5 with fail
    have HU0 : Hid (Upd (fun k => k = w.heap.size) w2 (w2.setCell ⟨w.heap.size, 9, none⟩ (.int .i64 v))) := Lib.hid (Upd.set _ _ rfl)
    have HR3 : Hid (Row (w2.setCell ⟨w.heap.size, 9, none⟩ (.int .i64 v)) w.heap.size 201 (tX t v pin)) := Lib.hid (by rw [HR2.out.setCell]; exact HR2.out.setRow _)
    have HQ3 := Lib.hid (HQ2.out.upd HU0.out (fun e => hne e) (fun a e q => by
      rcases HH.out.row with ⟨q1, _⟩ | ⟨T, C, q1, q2⟩
      · rw [e] at q1; cases q1
      · rw [e] at q1; injection q1 with q1; subst q1; have := q2.row.lt; have q : T = w.heap.size := q; omega))
    have HB3 := Lib.hid (HB2.out.trans (HU0.out.toBelow (B := w.heap.size) HB2.out.size (fun k hk e => by omega)))
    clear HU0
    generalize w2.setCell ⟨w.heap.size, 9, none⟩ (.int .i64 v) = w3 at *
    clear x1 x9 f9 HR2 HQ2 HB2
    obtain ⟨n, hn⟩ : ∃ n, n = l.length := ⟨_, rfl⟩
    have hal := Go.Joins.below_alloc1 w3 (.cells (tX t v pin) 201)
    obtain ⟨T, c, w4, hap, hG4, ⟨u3, e3⟩, f3, hT, hU4⟩ := app_any HQ3.out.drew (tX_in t v pin) rfl HP.out.2
    have hap : (Builtin.append_ #[193, 193] 193 #[.slice ad l.length cap, .slice (some ⟨w3.heap.size, 0, none⟩) 1 1]).run Tryz.prog ((w3.alloc (.cells (tX t v pin) 201)).drew) = .ok (.slice (some ⟨T, 0, none⟩) (l.length + 1) c) w4 := hap
    have c3 := HQ3.out.c3
    have d3 := (HQ3.out.keep hal).c3
    have l3 := HR3.out.ld0 (d := _) Tryz.underlying201 rfl (by kernel_rfl)
    have l3d := HR3.out.drew.ld0 (d := _) Tryz.underlying201 rfl (by kernel_rfl)
    have l4 := (HR3.out.keep hal).ld0 (d := _) Tryz.underlying201 rfl (by kernel_rfl)
    have l4d := (HR3.out.keep hal).drew.ld0 (d := _) Tryz.underlying201 rfl (by kernel_rfl)
    have hbs := fun w => bsT_any w t v pin
    have HG4 := Lib.hid hG4
    have HT3 : Hid (ad = some ⟨T, 0, none⟩ ∨ w.heap.size ≤ T) := Lib.hid (by rcases hT with q | q; exact .inl q; exact .inr (Nat.le_trans HB3.out.size q))
    have HU5 := Lib.hid (((Upd.below HB3.out).trans ((Upd.drew w3).trans hU4)).trans (Upd.set w4 (i := 3) (.slice (some ⟨T, 0, none⟩) (l.length + 1) c) (S := rS R ad) (b := R) (.inl rfl)))
    have HX : Hid ((l ++ [(⟨t, v, true, 0⟩ : Tk)])[l.length]? = some ⟨t, v, true, 0⟩) := Lib.hid (by simp)
    have HLL : Hid ((l ++ [(⟨t, v, true, 0⟩ : Tk)]).length = l.length + 1) := Lib.hid (by simp)
    have HLS : Hid ((l ++ [(⟨t, v, true, 0⟩ : Tk)]).set l.length ⟨t, v, true, -1⟩ = l ++ [⟨t, v, true, -1⟩]) := Lib.hid (by simp)
    have hmx := HQ3.out.mx
    rw [← hn] at hap c3 d3 HG4 HU5 HX HLL HLS hmx
    have HN := Lib.hid hn
    clear hG4 hT hU4 hal hn HQ3 HR3 HB3
    have n0 : (0 : Int) ≤ n := by omega
    have n1 : (n : Int) < (n : Int) + 1 := by omega
    have n2 : IntKind.i64.wrap (n : Int) = n := IntWalk.i64_in _ (by omega)
    generalize tX t v pin = A at *
    have hix := fun w => ixT_run w T c n
    go_region_law (refine step_append_run rfl (.tmp 31) (.tmp 33) 193 rfl hap ?_)
    all_goals
      clear hap c3 d3 l3 l3d l4 l4d hbs e3 f3
      generalize w4.setCell ⟨R, 3, none⟩ (.slice (some ⟨T, 0, none⟩) (n + 1) c) = w5 at *
      have c3 : w5.cell? ⟨R, 3, none⟩ = some (.slice (some ⟨T, 0, none⟩) (n + 1) c) := by have := HG4.out.c3; rwa [HLL.out] at this
      have HWT := Lib.hid (waitG_is HG4.out.drew HX.out)
      go_upto_region 6 with fail
      go_region_held3 (fun wx => wx.cell? ⟨R, 3, none⟩ = some (.slice (some ⟨T, 0, none⟩) (n + 1) c)) (first | assumption | exact hS6) ((go_at_call 152; refine HWT.out.mono ?_; rintro e6 w6 ⟨rfl, hr6, hu6⟩; have hS6 : w6.cell? ⟨R, 3, none⟩ = some (.slice (some ⟨T, 0, none⟩) (n + 1) c) := (by have := hr6.c3; rwa [List.length_set, HLL.out] at this)))
      clear hS6
      rw [HLS.out] at hr6
      have HU6 := Lib.hid (HU5.out.trans' ((Upd.drew w5).trans hu6) (fun k hk e => by
        rcases e with e | ⟨a, e1, e2⟩
        · exact .inl e
        · injection e1 with e1
          subst e1
          rcases HT3.out with q | q
          · exact .inr ⟨_, q, e2⟩
          · have e2 : k = T := e2
            omega))
      have HFI := Lib.hid (fillG_is hr6 HP.out.1 (by omega))
      clear hr6 hu6 c3 HWT
      go_wp2_with (go_at_call 153; refine HFI.out.mono ?_; rintro e7 w7 ⟨rfl, hr7, hu7⟩; have HR7 := Lib.hid hr7; have HU7 := Lib.hid (HU6.out.trans' hu7 (fun k hk e => by
        rcases e with e | ⟨a, e1, e2⟩
        · exact .inl e
        · injection e1 with e1
          subst e1
          rcases HT3.out with q | q
          · exact .inr ⟨_, q, e2⟩
          · have e2 : k = T := e2
            omega)); clear hr7 hu7)
      (try simp only [Exit.inBlock, Exit.then]); first | (refine bodyPost_ret (results_none rfl _ _ _) rfl ?_) | (refine bodyPost_end (results_none rfl _ _ _) rfl ?_)
      exact ⟨rfl, ⟨_, _, by rw [HLE.out]; exact HR7.out, HT3.out⟩, HU7.out⟩
end
end Go.Proofs.YtmdjkoiglghipaaGreatDoor
namespace Go.Proofs.YtmdjkoiglghipaaGreatDoor
open Go.RowKit
set_option linter.unusedVariables false
set_option linter.unusedSimpArgs false
def onePin (m : Nat) : Int := wrap64 (wrap64 (2 ^ m) - 1)
theorem onePin_ok {m : Nat} (hm : m ≤ 8) : ∀ c, c < m → pinOk (onePin m) c := by
  have h : ∀ m, m < 9 → ∀ c, c < m → bits .and .i64 (onePin m / 2 ^ c) 1 = 1 := by decide +kernel
  exact fun c hc => h m (by omega) c hc
section
variable {w w' : World} {R cap : Nat} {ad : Option Addr} {cpus ticks pin : Int} {l : List Tk}
set_option maxRecDepth 100000 in
set_option maxHeartbeats 400000 in
theorem snewG_is (w : World) {m : Nat} (h1 : 1 ≤ m) (h8 : m ≤ 4) : Calls Tryz.prog 36 #[.int .i64 m] w fun e w' => e = .returned (.tuple #[.pointer (some ⟨w.heap.size, 0, none⟩), .int .i64 0]) ∧ Below w.heap.size w w' ∧ w'.heap.size = w.heap.size + 1 ∧ RunG w' w.heap.size none 0 m 0 (onePin m) [] := by
  have hr := row_new w 195 #[.int .i64 m, .int .i64 0, .int .i64 0, .slice none 0 0]
  have HQ : Hid (RunG (w.alloc (.cells #[.int .i64 m, .int .i64 0, .int .i64 0, .slice none 0 0] 195)) w.heap.size none 0 m 0 (onePin m) []) := Lib.hid ⟨hr.lt, hr.fz, by rw [hr.cell]; rfl, by rw [hr.cell]; rfl, ⟨0, by rw [hr.cell]; rfl⟩, by rw [hr.cell]; rfl, .inl ⟨rfl, rfl, rfl⟩⟩
  clear hr
  have : m = 1 ∨ m = 2 ∨ m = 3 ∨ m = 4 := by omega
  rcases this with rfl | rfl | rfl | rfl
  all_goals
    clear h1 h8
    go_enter Tryz.func36, Tryz.ntmps36
    go_wp2_with fail
    go_ret2
    exact ⟨rfl, Go.Joins.below_alloc1 w _, by simp, HQ.out⟩
set_option maxRecDepth 100000 in
set_option maxHeartbeats 400000 in
theorem valueG_is (w : World) : Calls Tryz.prog 75 #[.int .i64 1, .int .i64 10] w fun e w' => e = .returned (.bool true) ∧ w = w' := by
  go_enter Tryz.func75, Tryz.ntmps75
  go_wp2_with fail
  go_ret
  exact ⟨rfl, rfl⟩
set_option maxRecDepth 100000 in
set_option maxHeartbeats 400000 in
theorem addG_is {m : Nat} (h : RunG w R ad cap m ticks (onePin m) l) {t : Int} (h1 : 1 ≤ t) (h2 : t ≤ 16) (ht : idG l t = none) (hm : m ≤ 8) (hl : l.length < 1000) : Calls Tryz.prog 39 #[.pointer (some ⟨R, 0, none⟩), .int .i64 t, .int .i64 1, .int .i64 10] w fun e w' => e = .returned (.int .i64 0) ∧ (∃ T c, RunG w' R (some ⟨T, 0, none⟩) c m ticks (onePin m) (enterL l t m) ∧ (ad = some ⟨T, 0, none⟩ ∨ w.heap.size ≤ T)) ∧ Upd (rS R ad) w w' := by
  have HV := Lib.hid (valueG_is w)
  have HF := Lib.hid (find_is h t)
  rw [ht, ptrG_none] at HF
  have HE := Lib.hid (enterG_is h t hm hl rfl (onePin_ok hm))
  clear h ht
  go_enter Tryz.func39, Tryz.ntmps39
  go_wp2_with (first | (go_at_call 75; refine HV.out.mono ?_; rintro e1 w1 ⟨rfl, rfl⟩) | (go_at_call 76; refine HF.out.mono ?_; rintro e1 w1 ⟨rfl, rfl⟩) | (go_at_call 77; refine HE.out.mono ?_; rintro e1 w1 ⟨rfl, hr1, hu1⟩; have HR1 := Lib.hid hr1; have HU1 := Lib.hid hu1; clear hr1 hu1))
  go_ret
  exact ⟨rfl, HR1.out, HU1.out⟩
theorem snew1_is (w : World) : Calls Tryz.prog 36 #[.int .i64 1] w fun e w' => e = .returned (.tuple #[.pointer (some ⟨w.heap.size, 0, none⟩), .int .i64 0]) ∧ Below w.heap.size w w' ∧ w'.heap.size = w.heap.size + 1 ∧ RunG w' w.heap.size none 0 1 0 (onePin 1) [] := snewG_is w (m := 1) (by decide) (by decide)
theorem enter1 : enterL [] 1 1 = [⟨1, 0, true, 0⟩] := by rfl
theorem add1_is (h : RunG w R none 0 1 0 (onePin 1) []) : Calls Tryz.prog 39 #[.pointer (some ⟨R, 0, none⟩), .int .i64 1, .int .i64 1, .int .i64 10] w fun e w' => e = .returned (.int .i64 0) ∧ (∃ T c, RunG w' R (some ⟨T, 0, none⟩) c 1 0 (onePin 1) [⟨1, 0, true, 0⟩] ∧ w.heap.size ≤ T) ∧ Upd (fun k => k = R) w w' := by
  refine (addG_is (m := 1) h (t := 1) (by decide) (by decide) rfl (by decide) (by decide)).mono ?_
  rintro e w' ⟨rfl, ⟨T, c, hr, hT⟩, hu⟩
  rw [enter1] at hr
  refine ⟨rfl, ⟨T, c, hr, ?_⟩, hu.mono fun k _ e => ?_⟩
  · rcases hT with q | q
    · cases q
    · exact q
  · rcases e with e | ⟨a, e, _⟩
    · exact e
    · cases e
end
end Go.Proofs.YtmdjkoiglghipaaGreatDoor
namespace Go.Proofs.YtmdjkoiglghipaaGreatDoor
open Go.RowKit
set_option linter.unusedVariables false
set_option linter.unusedSimpArgs false
def slT (x : Value) (a b c : Option Value) : Sem Value := Instr.sliceAt 193 x a b c
theorem sl_task (x : Value) (a b c : Option Value) : Instr.sliceAt 193 x a b c = slT x a b c := rfl
theorem slT_front (w : World) {T n cap k : Nat} (h : k ≤ cap) : (slT (.slice (some ⟨T, 0, none⟩) n cap) none (some (.int .i64 k)) (some (.int .i64 k))).run Tryz.prog w = .ok (.slice (some ⟨T, 0, none⟩) k k) w := by
  have h1 : (k : Int) ≤ cap := by omega
  simp [slT, Instr.sliceAt, Instr.slice, Instr.sliceBounds, Instr.sliceBound, asIntOf, run_underlying Tryz.underlying193, h1, h, go_sem]
  (try (intro q; omega))
/-- where what lies behind place k begins -/
def behind (T k cap : Nat) : Addr := if cap = k + 1 then ⟨T, 0, none⟩ else ⟨T, (k + 1) * 15, none⟩
theorem slT_back (w : World) {T n cap k : Nat} (h : k + 1 ≤ n) (hc : n ≤ cap) : (slT (.slice (some ⟨T, 0, none⟩) n cap) (some (.int .i64 ((k : Int) + 1))) none none).run Tryz.prog w = .ok (.slice (some (behind T k cap)) (n - (k + 1)) (cap - (k + 1))) w := by
  have h1 : (k : Int) + 1 ≤ n := by omega
  have h0 : (0 : Int) ≤ (k : Int) + 1 := by omega
  have h2 : ((k : Int) + 1).toNat = k + 1 := by omega
  simp [slT, Instr.sliceAt, Instr.slice, Instr.sliceBounds, Instr.sliceBound, asIntOf, run_underlying Tryz.underlying193, h1, h0, h2, go_sem, behind]
  (try (split <;> rfl))
/-- append's run at a slice cut at i, and what lies behind i -/
def leaveL (l : List Tk) (i : Nat) (m : Nat) : List Tk := fillG (l.eraseIdx i) m
section
variable {w w' : World} {R cap : Nat} {ad : Option Addr} {cpus ticks pin : Int} {l : List Tk} {T i : Nat} {C X : Array Value} {x : Tk}
theorem tks_cut (hC : TksIn C pin l) (hc : l.length * 15 ≤ C.size) (hi : i < l.length) : TksIn (C.toList.take (i * 15) ++ (C.toList.drop ((i + 1) * 15)).take ((l.length - 1 - i) * 15)).toArray pin (l.eraseIdx i) := by
  have hlen : (C.toList.take (i * 15)).length = i * 15 := by rw [List.length_take]; simp; omega
  intro j y hy
  rw [List.getElem?_eraseIdx] at hy
  by_cases hj : j < i
  · rw [if_pos hj] at hy
    refine (hC j y hy).of fun k hk => ?_
    rw [List.getElem?_toArray, List.getElem?_append_left (by omega), List.getElem?_take, if_pos (by omega)]
    simp
  · rw [if_neg hj] at hy
    have hj2 := (List.getElem?_eq_some_iff.1 hy).1
    refine (hC (j + 1) y hy).of fun k hk => ?_
    rw [List.getElem?_toArray, List.getElem?_append_right (by omega), hlen, List.getElem?_take, if_pos (by omega), List.getElem?_drop]
    simp only [Array.getElem?_toList]
    congr 1
    omega
theorem cut_any (h : RunG w R (some ⟨T, 0, none⟩) cap cpus ticks pin l) (hi : i < l.length) : ∃ T' c w', (appT #[.slice (some ⟨T, 0, none⟩) i i, .slice (some (behind T i cap)) (l.length - (i + 1)) (cap - (i + 1))]).run Tryz.prog w = .ok (.slice (some ⟨T', 0, none⟩) (l.length - 1) c) w' ∧ RunG (w'.setCell ⟨R, 3, none⟩ (.slice (some ⟨T', 0, none⟩) (l.length - 1) c)) R (some ⟨T', 0, none⟩) c cpus ticks pin (l.eraseIdx i) ∧ (∃ v, w'.cell? ⟨R, 3, none⟩ = some v) ∧ w'.frozen? ⟨R, 3, none⟩ = false ∧ (T' = T ∨ w.heap.size ≤ T') ∧ Upd (fun _ => False) w w' := by
  obtain ⟨T0, C, e, ht⟩ := h.rows (by omega)
  injection e with e
  injection e with e
  subst e
  obtain ⟨i0, hi0, hz0, hz1, hz2⟩ := info_parts infoT
  have hsz := ht.sz
  have hln := ht.len
  have hml := ht.ml
  have hel : (l.eraseIdx i).length = l.length - 1 := by rw [List.length_eraseIdx, if_pos hi]
  by_cases h0 : l.length - 1 - i = 0
  · rw [show l.length - (i + 1) = 0 by omega]
    have hr := run_append_room_cells (P := Tryz.prog) (w := w) 193 193 201 i0 Tryz.underlying193 hi0 T 0 i i (behind T i cap) 0 (cap - (i + 1)) [] (by simp) (fun j u hu => by simp at hu) (fun u hu => by simp at hu) (by omega) (fun j hj => by simp at hj) (fun j hj => by simp at hj)
    have hq := h.r
    refine ⟨T, i, w, by rw [show l.length - 1 = i + 0 by omega]; exact hr, hq.lay (C := C) (l' := l.eraseIdx i) ⟨ht.ne, ht.row, by omega, by have := ht.mx; omega, by omega, by omega, fun j y hy => ?_⟩ hel.symm, hq.c3, hq.fz 3, .inl rfl, Upd.refl _ _⟩
    rw [List.getElem?_eraseIdx] at hy
    by_cases hj : j < i
    · rw [if_pos hj] at hy; exact ht.tks j y hy
    · rw [if_neg hj] at hy
      have := (List.getElem?_eq_some_iff.1 hy).1
      omega
  · rw [show l.length - (i + 1) = l.length - 1 - i by omega, show behind T i cap = ⟨T, (i + 1) * 15, none⟩ from if_neg (by omega)]
    obtain ⟨v', w', hr, ho, hg⟩ := run_append_arg_grows (P := Tryz.prog) (w := w) 193 193 201 i0 _ 15 112 Tryz.underlying193 hi0 hz0 hz1 hz2 rfl (by decide) ⟨T, 0, none⟩ i i (C.toList.take (i * 15)) (by rw [List.length_take]; simp; omega) (fun j u hu => by
      rw [List.getElem?_take] at hu
      split at hu
      · rw [Addr.add_lit, ht.row.cell]; simpa using hu
      · cases hu) ⟨T, (i + 1) * 15, none⟩ (l.length - 1 - i) (cap - (i + 1)) ((C.toList.drop ((i + 1) * 15)).take ((l.length - 1 - i) * 15)) (by rw [List.length_take, List.length_drop]; simp; omega) (fun j u hu => by
      rw [List.getElem?_take] at hu
      split at hu
      · rw [List.getElem?_drop] at hu
        rw [Addr.add_lit, ht.row.cell]; simpa using hu
      · cases hu) (by omega) (by unfold maxLen; omega) (by omega)
    rw [show i + (l.length - 1 - i) = l.length - 1 by omega] at ho
    have hbg : Below w.heap.size w w' := (Below.refl _ _).grown hg (Nat.le_refl _) (fun k hk => by cases hk)
    obtain ⟨T', c, C', rfl, hT, htr⟩ := tkr_own (l := l.eraseIdx i) (pin := pin) (R := R) ho (by omega) h.lt hel (by omega) (tks_cut ht.tks (by omega) hi)
    have hq := (h.keep hbg).r
    exact ⟨T', c, w', hr, hq.lay htr hel.symm, hq.c3, hq.fz 3, .inr hT, Upd.below hbg⟩
theorem idG_some {t : Int} (h : idG l t = some i) : ∃ x, l[i]? = some x ∧ x.t = t ∧ ∀ (j : Nat) (y : Tk), j < i → l[j]? = some y → (y.t == t) = false := by
  unfold idG at h
  rw [List.findIdx?_eq_some_iff_getElem] at h
  obtain ⟨h1, h2, h3⟩ := h
  refine ⟨l[i], List.getElem?_eq_getElem h1, by simpa using h2, fun j y hj hy => ?_⟩
  have := h3 j hj
  obtain ⟨h4, h5⟩ := List.getElem?_eq_some_iff.1 hy
  subst h5
  simpa using this
attribute [local go_sem ↓] ld_task bs_task sl_task
set_option maxRecDepth 100000 in
set_option maxHeartbeats 1000000 in
theorem leaveG_is {m : Nat} (h : RunG w R ad cap m ticks (onePin m) l) {t : Int} (ht : idG l t = some i) (hm : m ≤ 8) : Calls Tryz.prog 84 #[.pointer (some ⟨R, 0, none⟩), .int .i64 t] w fun e w' => e = .returned (.int .i64 0) ∧ (∃ T c, RunG w' R (some ⟨T, 0, none⟩) c m ticks (onePin m) (leaveL l i m) ∧ (ad = some ⟨T, 0, none⟩ ∨ w.heap.size ≤ T)) ∧ Upd (rS R ad) w w' := by
  obtain ⟨x0, hx0, hxt, hfirst⟩ := idG_some ht
  have hil := (List.getElem?_eq_some_iff.1 hx0).1
  have c3 := h.c3
  obtain ⟨T, C, rfl, hr⟩ := h.rows (by omega)
  have HH := Lib.hid h
  have HR := Lib.hid hr
  have hmx := h.mx
  have hcap := hr.len
  obtain ⟨n, hn⟩ : ∃ n, n = l.length := ⟨_, rfl⟩
  rw [← hn] at c3 hmx hil hcap
  have HN := Lib.hid hn
  have HX := Lib.hid (And.intro hx0 (And.intro hxt hfirst))
  clear h hn ht hx0 hxt hfirst hr
  go_enter Tryz.func84, Tryz.ntmps84
  go_wp2_with fail
  go_loop [11] (fun kv => ∃ k : Nat, k ≤ i ∧ kv = .int .i64 k) (fun kv => n - (intOf kv).toNat)
  case atStart => exact ⟨0, Nat.zero_le _, rfl⟩
  case round =>
    obtain ⟨k, hk0, rfl⟩ := hrel
    have j1 : (k : Int) < n := by omega
    obtain ⟨x, hx⟩ : ∃ x, l[k]? = some x := ⟨l[k]'(by have := HN.out; omega), List.getElem?_eq_getElem _⟩
    have t0 := (HR.out.cell (k * 15)).trans (HR.out.at hx).c0
    by_cases hk : k = i
    · subst hk
      have hxt : x.t = t := by have := HX.out.1; rw [hx] at this; injection this with this; subst this; exact HX.out.2.1
      rw [hxt] at t0
      clear hx hxt
      obtain ⟨T', c, w4, hap, hG4, ⟨u3, e3⟩, f3, hT, hU4⟩ := cut_any HH.out.drew (i := k) (by have := HN.out; omega)
      rw [← HN.out] at hap hG4
      have hs1 := fun w => slT_front w (T := T) (n := n) (cap := cap) (k := k) (by have := HR.out.len; have := HN.out; omega)
      have hs2 := fun w => slT_back w (T := T) (n := n) (cap := cap) (k := k) (by omega) (by have := HR.out.len; have := HN.out; omega)
      have hap : (Builtin.append_ #[193, 193] 193 #[.slice (some ⟨T, 0, none⟩) k k, .slice (some (behind T k cap)) (n - (k + 1)) (cap - (k + 1))]).run Tryz.prog w.drew = .ok (.slice (some ⟨T', 0, none⟩) (n - 1) c) w4 := hap
      have HG4 := Lib.hid hG4
      have HU5 := Lib.hid ((((Upd.drew w).trans hU4).mono (S' := rS R (some ⟨T, 0, none⟩)) (fun _ _ e => e.elim)).trans (Upd.set w4 (i := 3) (.slice (some ⟨T', 0, none⟩) (n - 1) c) (S := rS R (some ⟨T, 0, none⟩)) (b := R) (.inl rfl)))
      have HT3 : Hid ((some (⟨T, 0, none⟩ : Addr) = some ⟨T', 0, none⟩) ∨ w.heap.size ≤ T') := Lib.hid (by rcases hT with q | q; exact .inl (by rw [q]); exact .inr q)
      have n0 : (0 : Int) ≤ k := by omega
      have n1 : (k : Int) + 1 ≤ n := by omega
      have n2 : (n : Int) ≤ cap := by omega
      have n3 : IntKind.i64.wrap ((k : Int) + 1) = k + 1 := IntWalk.i64_in _ (by omega)
      clear hG4 hU4 hT
      go_upto_region 5 with fail
      go_region_law (refine step_append_run rfl (.tmp 31) (.tmp 38) 193 rfl hap ?_)
      all_goals
        clear hap c3 hs1 hs2 e3 f3 t0
        generalize w4.setCell ⟨R, 3, none⟩ (.slice (some ⟨T', 0, none⟩) (n - 1) c) = w5 at *
        have HFI := Lib.hid (fillG_is HG4.out (onePin_ok hm) (by omega))
        go_wp2_with (go_at_call 153; refine HFI.out.mono ?_; rintro e7 w7 ⟨rfl, hr7, hu7⟩; have HR7 := Lib.hid hr7; have HU7 := Lib.hid (HU5.out.trans' hu7 (fun k hk e => by
          rcases e with e | ⟨a, e1, e2⟩
          · exact .inl e
          · injection e1 with e1
            subst e1
            rcases HT3.out with q | q
            · exact .inr ⟨_, q, e2⟩
            · have e2 : k = T' := e2
              omega)); clear hr7 hu7)
        go_ret
        exact ⟨rfl, ⟨_, _, HR7.out, HT3.out⟩, HU7.out⟩
    · have hxt : (x.t == t) = false := HX.out.2.2 k x (by omega) hx
      clear hx
      go_wp2_with fail
      go_round
      case rel => exact ⟨k + 1, by omega, by go_num⟩
      case measure => simp [intOf]; omega
end
end Go.Proofs.YtmdjkoiglghipaaGreatDoor
