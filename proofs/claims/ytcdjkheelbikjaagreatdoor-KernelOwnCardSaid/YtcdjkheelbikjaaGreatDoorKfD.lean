/- The walks of kernel.opened. The walk of kernel.open. -/
import Derived.Test.YtcdjkheelbikjaaGreatDoorKfB
namespace Go.Proofs.YtcdjkheelbikjaaGreatDoor
open Go.RowKit Go.Maps
set_option linter.unusedVariables false
set_option linter.unusedSimpArgs false
/-- what a call that writes asks for -/
structure FileX (x : FM) (q : Nat) : Prop where
  nz : ∀ i, 2 ≤ i → i < 32 → x.nd i = nd0
  G : ∀ k, k < 16 → 37 ≤ x.G k ∧ x.G k < 256 ∧ hasB (hasT x.G) (x.G k) = true
  free : Free x.G (q + 1) 7
  na : x.na ≤ 8
  l0 : (x.nd 0).l = 1 ∧ (x.nd 0).up = 1
  Gq : ∀ k, k < 16 → x.G k ≠ q
/-- the file "f" is there, and empty -/
structure FileF (x : FM) (q : Nat) (m : Int) : Prop where
  k : (x.nd 0).k = 2
  m0 : (x.nd 0).m = 493
  u : (x.nd 0).u = 0
  g : (x.nd 0).g = 0
  ps : (x.nd 0).ps = [(q : Int)]
  sz : (x.nd 0).sz = 16
  q0 : q ≠ 0
  q1 : q < 256
  sec : (fsec x q).take 16 = entL
  n1 : ∃ pv, x.nd 1 = ⟨1, m, 0, 0, 0, 1, 0, pv, []⟩
  x : FileX x q
theorem MadeF.file {w w' : World} {c : FC} {x x' : FM} {q : Nat} {m : Int} (h : MadeF w w' c x q m 0 0 x') (hr : Root0 x q) (hna : x.na ≤ 2) : FileF x' q m := by
  obtain ⟨pv, e⟩ := h.r0
  refine ⟨?_, ?_, ?_, ?_, ?_, ?_, ?_, hr.fst.hi, ?_, h.r1, ?_⟩
  · rw [e]; exact hr.k
  · rw [e]; exact hr.m
  · rw [e]; exact hr.u
  · rw [e]; exact hr.g
  · rw [e]
  · rw [e]
  · have := hr.fst.lo; omega
  · rw [h.sec]; rfl
  · refine ⟨fun i h1 h2 => (h.rz i h1).trans (hr.z i (by omega) h2), fun k hk => ?_, by rw [h.G]; exact hr.free.on, by have := h.na; omega, by rw [e]; exact ⟨hr.l, hr.up⟩, fun k hk e1 => ?_⟩
    · obtain ⟨h1, h2, h3⟩ := hr.G k hk
      have hk0 : x'.G k = x.G k := by rw [h.G]; exact gOn_off q (by omega)
      rw [hk0, h.G, hasB_gOn _ _ h2, h3]
      exact ⟨h1, h2, rfl⟩
    · obtain ⟨h1, h2, h3⟩ := hr.G k hk
      have hk0 : x'.G k = x.G k := by rw [h.G]; exact gOn_off q (by omega)
      rw [hk0] at e1
      rw [e1, hr.fst.no] at h3
      cases h3
section
variable {w : World} {k : KC} {s : KSt} {fc : FC} {x : FM} {p : Nat} {U K : Int} {a : Option Addr} {cap gc cc : Nat}
attribute [local go_sem ↓] ld_sta st_sta
attribute [local go_sem] stS_new
set_option maxRecDepth 100000 in
set_option maxHeartbeats 1000000 in
theorem openedN_is (h : KF w k s fc x) (q : Who w s p 0 127 a cap gc cc) {q0 : Nat} (hr : Root0 x q0) (hna : x.na ≤ 2) {m : Int} (hm : 0 ≤ m ∧ m ≤ 511) {A : Array Value} (hA2 : A[2]? = some (.int .i64 1)) (hA3 : A[3]? = some (.int .i64 m)) (hA4 : A[4]? = some (.string ⟨#[102]⟩))
    (hM : ∀ w, Calls Tryz.prog 175 #[.agg (stA (x.nd 0)), .agg (crA 0 127 a cap), .int .i64 4] w fun e w' => e = .returned (.tuple #[.bool true, .int .i64 0]) ∧ Below w.heap.size w w')
    (hM2 : ∀ w, Calls Tryz.prog 175 #[.agg (stA (x.nd 0)), .agg (crA 0 127 a cap), .int .i64 2] w fun e w' => e = .returned (.tuple #[.bool true, .int .i64 0]) ∧ Below w.heap.size w w') :
    Calls Tryz.prog 158 #[.pointer (some ⟨k.K, 0, none⟩), .int .i64 p, .agg A] w fun e w' => e = .returned (.tuple #[.int .i64 2, .int .i64 0]) ∧ ∃ x', KF w' k s fc x' ∧ FileF x' q0 m ∧ x'.held = x.held ∧ x'.nh = x.nh ∧ Upd x.bs w w' ∧ ∀ j, x'.bs j → x.bs j ∨ w.heap.size ≤ j := by
  have hb1 := Go.Joins.below_alloc1 w (.cells A 40)
  have hr1 := row_new w 40 A
  have d4 : (w.alloc (.cells A 40)).cell? ⟨w.heap.size, 4, none⟩ = some (.string ⟨#[102]⟩) := (hr1.cell 4).trans hA4
  have hz : ∀ j, x.bs j → j < w.heap.size := h.fs.lt
  have hF : x.bs fc.F := h.fs.bm _ (.inl rfl)
  have ha : x.bs x.a := h.fs.bm _ (.inr (.inl rfl))
  have hK0 : s.tag k.K ≠ 0 := by rw [h.kt.tK]; decide
  have HW := Lib.hid (kwalkN_is (h.keep hb1) (q.keep hb1) hr.k hr.ps hr.sz hM)
  have HLS := Lib.hid (fun wx (hb : Below w.heap.size w wx) => klast_is (h.keep hb) (q.keep hb) hr.k hM hM2)
  have HMK := Lib.hid (fun wx (hb : Below w.heap.size w wx) => make0_is (h.keep hb).fs hr (by omega) hm (u := 0) (g := 0) (by decide) (by decide))
  have hc11 : ∀ wx, Below w.heap.size w wx → wx.cell? ⟨k.K, 8 + p * 38 + 11, none⟩ = some (.int .i64 0) ∧ wx.cell? ⟨k.K, 8 + p * 38 + 12, none⟩ = some (.int .i64 0) := fun wx hb => by
    have := q.p16
    refine ⟨?_, ?_⟩
    · rw [(h.keep hb).kt.kr.cell (by omega)]; exact (q.cr 0 (by decide)).symm
    · rw [(h.keep hb).kt.kr.cell (by omega)]; exact (q.cr 1 (by decide)).symm
  have HS : Hid (∀ wx, Below (w.alloc (.cells A 40)).heap.size (w.alloc (.cells A 40)) wx → (wx.cell? ⟨k.K, 2, none⟩ = some (.pointer (some ⟨fc.F, 0, none⟩)) ∧ wx.cell? ⟨w.heap.size, 3, none⟩ = some (.int .i64 m) ∧ wx.cell? ⟨k.K, 8 + p * 38 + 11, none⟩ = some (.int .i64 0) ∧ wx.cell? ⟨k.K, 8 + p * 38 + 12, none⟩ = some (.int .i64 0) ∧ wx.cell? ⟨k.K, 8 + p * 38 + 11 + 1, none⟩ = some (.int .i64 0) ∧ wx.cell? ⟨w.heap.size, 4, none⟩ = some (.string ⟨#[102]⟩) ∧ wx.cell? ⟨w.heap.size, 2, none⟩ = some (.int .i64 1))) := Lib.hid (fun wx hb => by
    have hbw := hb1.trans (hb.mono hb1.size)
    exact ⟨(h.keep hbw).fsp, ((hr1.keep hb).cell 3).trans hA3, (hc11 wx hbw).1, (hc11 wx hbw).2, (hc11 wx hbw).2, ((hr1.keep hb).cell 4).trans hA4, ((hr1.keep hb).cell 2).trans hA2⟩)
  have HS2 : Hid (∀ wx w', Below (w.alloc (.cells A 40)).heap.size (w.alloc (.cells A 40)) wx → Upd (fun j => j = fc.F ∨ j = x.a) wx w' → (w'.cell? ⟨k.K, 2, none⟩ = some (.pointer (some ⟨fc.F, 0, none⟩)) ∧ w'.cell? ⟨w.heap.size, 3, none⟩ = some (.int .i64 m) ∧ w'.cell? ⟨k.K, 8 + p * 38 + 11, none⟩ = some (.int .i64 0) ∧ w'.cell? ⟨k.K, 8 + p * 38 + 12, none⟩ = some (.int .i64 0) ∧ w'.cell? ⟨k.K, 8 + p * 38 + 11 + 1, none⟩ = some (.int .i64 0) ∧ w'.cell? ⟨w.heap.size, 4, none⟩ = some (.string ⟨#[102]⟩) ∧ w'.cell? ⟨w.heap.size, 2, none⟩ = some (.int .i64 1))) := Lib.hid (fun wx w' hb hu => by
    have hK : ¬ (k.K = fc.F ∨ k.K = x.a) := by
      rintro (e | e)
      · exact hK0 (h.sep _ (e ▸ hF))
      · exact hK0 (h.sep _ (e ▸ ha))
    have hC : ¬ (w.heap.size = fc.F ∨ w.heap.size = x.a) := by
      rintro (e | e)
      · have := hz _ hF; omega
      · have := hz _ ha; omega
    obtain ⟨t1, t2, t3, t4, t5, t6, t7⟩ := HS.out wx hb
    have lt : ∀ {b o v}, wx.cell? ⟨b, o, none⟩ = some v → b < wx.heap.size := fun e => World.block_lt_of_cell? wx _ e
    exact ⟨(hu.cell (lt t1) hK).trans t1, (hu.cell (lt t2) hC).trans t2, (hu.cell (lt t3) hK).trans t3, (hu.cell (lt t4) hK).trans t4, (hu.cell (lt t5) hK).trans t5, (hu.cell (lt t6) hC).trans t6, (hu.cell (lt t7) hC).trans t7⟩)
  have i17 : (p : Int) < 17 := by have := q.p16; omega
  have HH := Lib.hid h
  have HRT := Lib.hid hr
  have HB1 := Lib.hid hb1
  have HMF : Hid (∀ wx w' x', Below w.heap.size w wx → MadeF wx w' fc x q0 m 0 0 x' → (KF w' k s fc x' ∧ FileF x' q0 m ∧ x'.held = x.held ∧ x'.nh = x.nh ∧ Upd x.bs w w' ∧ ∀ j, x'.bs j → x.bs j ∨ w.heap.size ≤ j)) := Lib.hid (fun wx w' x' hb hx => by
    have hu : Upd x.bs wx w' := hx.up.mono fun j _ e => by rcases e with rfl | rfl; exact hF; exact ha
    have hs : ∀ j, x'.bs j → x.bs j ∨ w.heap.size ≤ j := fun j e => (hx.bs j e).imp_right fun q => Nat.le_trans hb.size q
    exact ⟨⟨(h.keep hb).kt.upd hu (fun j e q => e (h.sep j q)), h.c2, hx.st, fun j e => (hs j e).elim (h.sep j) (h.kt.tz j)⟩, hx.file hr hna, hx.held.1, hx.held.2, (Upd.below hb).trans hu, hs⟩)
  clear h q hr hna hm hM hM2 hb1 hr1 hc11 hz hF ha hK0
  go_enter Tryz.func158, Tryz.ntmps158
  go_upto_region 1 with fail
  generalize w.alloc (.cells A 40) = w1 at *
  go_upto_region 2 with (go_at_call 94; (with_reducible refine HW.out.mono ?_); rintro e2 w2 ⟨rfl, hb2⟩)
  have HB3 := Lib.hid (hb2.alloc hb2.size (.cells (stA nd0) 35))
  clear hb2 d4 HW
  generalize w2.alloc (.cells (stA nd0) 35) = w3 at *
  obtain ⟨t1, t2, t3, t4, t5, t6, t7⟩ := HS.out _ HB3.out
  have HL3 := Lib.hid (HLS.out _ (HB1.out.trans (HB3.out.mono HB1.out.size)))
  clear HLS
  go_upto_region 4 with (go_at_call 168; (with_reducible refine HL3.out.mono ?_); rintro e4 w4 ⟨rfl, hb4⟩)
  have HB4 := Lib.hid (HB3.out.trans (hb4.mono HB3.out.size))
  have HB14 := Lib.hid (HB1.out.trans (HB4.out.mono HB1.out.size))
  clear hb4 HL3 t1 t2 t3 t4 t5 t6 t7
  go_upto_region 7 with fail
  go_region_held3 (fun wx => wx.cell? ⟨k.K, 2, none⟩ = some (.pointer (some ⟨fc.F, 0, none⟩)) ∧ wx.cell? ⟨w.heap.size, 3, none⟩ = some (.int .i64 m) ∧ wx.cell? ⟨k.K, 8 + p * 38 + 11, none⟩ = some (.int .i64 0) ∧ wx.cell? ⟨k.K, 8 + p * 38 + 12, none⟩ = some (.int .i64 0) ∧ wx.cell? ⟨k.K, 8 + p * 38 + 11 + 1, none⟩ = some (.int .i64 0) ∧ wx.cell? ⟨w.heap.size, 4, none⟩ = some (.string ⟨#[102]⟩) ∧ wx.cell? ⟨w.heap.size, 2, none⟩ = some (.int .i64 1)) (first | (with_reducible exact HS.out _ HB4.out) | (with_reducible exact HS.out _ HB4.out.drew) | (with_reducible exact HS2.out _ _ HB4.out.drew HX9.out.up) | fail) (first | (go_at_call 68; (with_reducible refine (HMK.out _ HB14.out.drew).mono ?_); rintro e9 w9 ⟨rfl, x9, hx9⟩; have HX9 := Lib.hid hx9; clear hx9) | fail)
  all_goals
    go_wp2_with fail
    go_ret2
    exact ⟨rfl, x9, HMF.out _ _ _ HB14.out.drew HX9.out⟩
set_option maxRecDepth 100000 in
set_option maxHeartbeats 1000000 in
theorem openedF_is (h : KF w k s fc x) (q : Who w s p U K a cap gc cc) {q0 : Nat} {m : Int} (hf : FileF x q0 m) {A : Array Value} {W : Int} {ok : Bool} (hA1 : A[1]? = some (.int .i64 W)) (hA2 : A[2]? = some (.int .i64 0)) (hA4 : A[4]? = some (.string ⟨#[102]⟩))
    (hM : ∀ w, Calls Tryz.prog 175 #[.agg (stA (x.nd 0)), .agg (crA U K a cap), .int .i64 4] w fun e w' => e = .returned (.tuple #[.bool true, .int .i64 0]) ∧ Below w.heap.size w w')
    (hM2 : ∀ w, Calls Tryz.prog 175 #[.agg (stA (x.nd 1)), .agg (crA U K a cap), .int .i64 W] w fun e w' => e = .returned (.tuple #[.bool ok, .int .i64 0]) ∧ Below w.heap.size w w') :
    Calls Tryz.prog 158 #[.pointer (some ⟨k.K, 0, none⟩), .int .i64 p, .agg A] w fun e w' => e = .returned (.tuple #[.int .i64 (bif ok then 2 else 0), .int .i64 (bif ok then 0 else 7)]) ∧ Below w.heap.size w w' := by
  have hb1 := Go.Joins.below_alloc1 w (.cells A 40)
  have hr1 := row_new w 40 A
  obtain ⟨pv, hn1⟩ := hf.n1
  have hk1 : (x.nd 1).k = 1 := by rw [hn1]
  have HC : Hid (∀ wx, Below (w.alloc (.cells A 40)).heap.size (w.alloc (.cells A 40)) wx → (wx.cell? ⟨w.heap.size, 1, none⟩ = some (.int .i64 W) ∧ wx.cell? ⟨w.heap.size, 2, none⟩ = some (.int .i64 0) ∧ wx.cell? ⟨w.heap.size, 4, none⟩ = some (.string ⟨#[102]⟩))) := Lib.hid (fun wx hb => ⟨((hr1.keep hb).cell 1).trans hA1, ((hr1.keep hb).cell 2).trans hA2, ((hr1.keep hb).cell 4).trans hA4⟩)
  have HW := Lib.hid (kwalkF_is (h.keep hb1) (q.keep hb1) hf.k hf.ps hf.q0 hf.q1 hf.sz hf.sec hk1 hM)
  have HMY := Lib.hid (fun wx (hb : Below w.heap.size w wx) => kmay_is (h.keep hb) (q.keep hb) (i := 1) (by decide) (n := 2) rfl (by rw [hk1]; decide) hM2)
  have HSA : Hid ((stA (x.nd 1))[0]? = some (.int .i64 1)) := Lib.hid (by show some (Value.int .i64 (x.nd 1).k) = _; rw [hk1])
  obtain ⟨-, -, d4⟩ := HC.out _ (Below.refl _ _)
  have HB1 := Lib.hid hb1
  clear h q hf hM hM2 hb1 hr1 hn1 hk1
  generalize x.nd 1 = nd at *
  go_enter Tryz.func158, Tryz.ntmps158
  go_upto_region 1 with fail
  generalize w.alloc (.cells A 40) = w1 at *
  go_upto_region 2 with (go_at_call 94; (with_reducible refine HW.out.mono ?_); rintro e2 w2 ⟨g2, c2, rfl, y2, q1, q2, hb2⟩)
  have hal := Go.Joins.below_alloc1 w2 (.cells (stA nd) 35)
  have hmx : (c2 : Int) ≤ 9223372036854775807 := by unfold maxLen at q2; omega
  have hm2 : (2 : Int) ≤ (c2 : Int) := by omega
  have HB3 := Lib.hid (hb2.trans (hal.mono hb2.size))
  have y3 := (hal.cell (p := ⟨g2, 1, none⟩) (World.block_lt_of_cell? w2 _ y2)).trans y2
  have s0 : (w2.alloc (.cells (stA nd) 35)).cell? ⟨w2.heap.size, 0, none⟩ = some (.int .i64 1) := ((row_new w2 35 (stA nd)).cell 0).trans HSA.out
  clear hb2 d4 HW hal y2 q1 q2 HSA
  generalize w2.alloc (.cells (stA nd) 35) = w3 at *
  obtain ⟨t1, t2, -⟩ := HC.out _ HB3.out
  have HM3 := Lib.hid (HMY.out _ (HB1.out.trans (HB3.out.mono HB1.out.size)))
  clear HMY
  go_upto_region 16 with (go_at_call 100; (with_reducible refine HM3.out.mono ?_); rintro e4 w4 ⟨rfl, hb4⟩)
  have HB4 := Lib.hid (HB3.out.trans (hb4.mono HB3.out.size))
  obtain ⟨u1, u2, -⟩ := HC.out _ HB4.out
  have HB14 := Lib.hid (HB1.out.trans (HB4.out.mono HB1.out.size))
  clear hb4 HM3 t1 t2 y3 s0
  cases ok
  all_goals
    dsimp only [cond_true, cond_false] at *
    go_wp2_with fail
    go_ret2
    exact ⟨rfl, HB14.out⟩
end
end Go.Proofs.YtcdjkheelbikjaaGreatDoor
namespace Go.Proofs.YtcdjkheelbikjaaGreatDoor
open Go.RowKit Go.Maps
set_option linter.unusedVariables false
set_option linter.unusedSimpArgs false
theorem bd_aI (c : Int) (w : World) : (bdR 37 #[(1, .int .i64 c)]).run Tryz.prog w = .ok (.agg (ansV 0 c 0 (.slice none 0 0))) w := by kernel_rfl
theorem ansN3' (e a b : Int) : (ansV e a b (.slice none 0 0)).size = 11 ∧ (ansV e a b (.slice none 0 0)).all (·.oneCell') = true := ⟨rfl, ansV_one _ _ _ rfl⟩
theorem tld_callR {w : World} {b : Nat} {A : Array Value} (hr : Row w b 40 A) (hA : A.size = 7) : (ldR 40 (.pointer (some ⟨b, 0, none⟩))).run Tryz.prog w = .ok (.agg A) w := hr.ld0 Tryz.underlying40 rfl (by rw [hA]; kernel_rfl)
/-- behind files.Open: which descriptor, and which row -/
def OpenTo (s : KSt) (p : Nat) (W : Int) (j k0 : Nat) : KSt := { s with fs := OpenLaw.updF s.fs k0 ⟨1, 2, W, false, 0, 1⟩, fd := OpenLaw.updN s.fd (p * 8 + j) (k0 + 1) }
def heldTo (x : FM) : FM := { x with held := fun j => if j = 2 then some (hcn (x.held 2)) else x.held j, nh := x.nh + 1 }
section
variable {w : World} {k : KC} {s : KSt} {fc : FC} {x : FM} {p : Nat}
/-- the file is held -/
theorem KF.hold {w' : World} (h : KF w k s fc x) (hf : FSt w' fc (heldTo x)) (hu : Upd (fun j => j = fc.hb) w w') : KF w' k s fc (heldTo x) :=
  ⟨h.kt.upd hu (fun j hj e => hj (h.sep _ (h.fs.bm _ (.inr (.inr (.inl e)))))), h.c2, hf, h.sep⟩
theorem KF.files {w' : World} {fs' : Nat → OpenLaw.F} {fd' : Nat → Nat} (h : KF w k s fc x) (hf : OpenLaw.OTab w' k.Fi fs' fd') (hu : Upd (fun j => j = k.Fi) w w') : KF w' k { s with fs := fs', fd := fd' } fc x :=
  ⟨h.kt.files hf hu, h.c2, h.fs.upd hu (fun j hj e => by have := h.sep j hj; rw [e, h.kt.tFi] at this; cases this), h.sep⟩
theorem KF.upd {w' : World} {S : Nat → Prop} (h : KF w k s fc x) (hu : Upd S w w') (h1 : ∀ j, s.tag j ≠ 0 → ¬ S j) (h2 : ∀ j, x.bs j → ¬ S j) : KF w' k s fc x := ⟨h.kt.upd hu h1, h.c2, h.fs.upd hu h2, h.sep⟩
attribute [local go_sem ↓] ld_ans st_ans ld_call bd_ans
set_option maxRecDepth 100000 in
set_option maxHeartbeats 1000000 in
theorem kopenA_is (h : KF w k s fc x) (p1 : 1 ≤ p) (p16 : p ≤ 16) {A : Array Value} (hA : A.size = 7) {W B m : Int} (hA1 : A[1]? = some (.int .i64 W)) (hA2 : A[2]? = some (.int .i64 B)) (hA3 : A[3]? = some (.int .i64 m)) (hW : 1 ≤ W ∧ W ≤ 3) (hBv : B = 0 ∨ B = 1) (hm : 0 ≤ m ∧ m ≤ 511) {P : FM → Prop}
    (hO : ∀ wx, Below w.heap.size w wx → Calls Tryz.prog 158 #[.pointer (some ⟨k.K, 0, none⟩), .int .i64 p, .agg A] wx fun e w' => e = .returned (.tuple #[.int .i64 2, .int .i64 0]) ∧ ∃ x', KF w' k s fc x' ∧ P x' ∧ Upd x.bs wx w' ∧ ∀ j, x'.bs j → x.bs j ∨ wx.heap.size ≤ j)
    (hP : ∀ x', P x' → ¬ (x'.nd 1).k = 0 ∧ x'.nh < 1000 ∧ hcn (x'.held 2) < 1000) (hf1 : ∃ j, j < 8 ∧ s.fd (p * 8 + j) = 0) (hf2 : ∃ k0, k0 < 32 ∧ (s.fs k0).n = 0) :
    Calls Tryz.prog 84 #[.pointer (some ⟨k.K, 0, none⟩), .int .i64 p, .agg A] w fun e w' => ∃ j k0 x', j < 8 ∧ k0 < 32 ∧ P x' ∧ KF w' k (OpenTo s p W j k0) fc (heldTo x') ∧ e = .returned (.agg (ansV 0 j 0 (.slice none 0 0))) ∧ Upd (fun i => i = k.Fi ∨ x.bs i ∨ w.heap.size ≤ i) w w' ∧ ∀ i, x'.bs i → x.bs i ∨ w.heap.size ≤ i := by
  have hb1 := Go.Joins.below_alloc1 w (.cells A 40)
  have hal : Below w.heap.size w ((w.alloc (.cells A 40)).alloc (.cells ansZ 37)) := hb1.trans ((Go.Joins.below_alloc1 _ _).mono hb1.size)
  have hr1 := (row_new w 40 A).alloc (.cells ansZ 37)
  have hr2 := row_new (w.alloc (.cells A 40)) 37 ansZ
  rw [size_alloc1] at hr2
  have d1 : ((w.alloc (.cells A 40)).alloc (.cells ansZ 37)).cell? ⟨w.heap.size, 1, none⟩ = some (.int .i64 W) := (hr1.cell 1).trans hA1
  have d2 : ((w.alloc (.cells A 40)).alloc (.cells ansZ 37)).cell? ⟨w.heap.size, 2, none⟩ = some (.int .i64 B) := (hr1.cell 2).trans hA2
  have d3 : ((w.alloc (.cells A 40)).alloc (.cells ansZ 37)).cell? ⟨w.heap.size, 3, none⟩ = some (.int .i64 m) := (hr1.cell 3).trans hA3
  have l2 := tld_callR hr1 hA
  have HO := Lib.hid (hO _ hal)
  have HH := Lib.hid h
  have HB := Lib.hid hal
  have HP := Lib.hid hP
  have HR : Hid (Row ((w.alloc (.cells A 40)).alloc (.cells #[.int .i64 0, .int .i64 0, .int .i64 0, .slice none 0 0, .slice none 0 0, .int .i64 0, .int .i64 0, .int .i64 0, .int .i64 0, .int .i64 0, .int .i64 0] 37)) (w.heap.size + 1) 37 ansZ) := Lib.hid hr2
  have HC := Lib.hid hr1
  have HAA := Lib.hid (And.intro hA1 hA2)
  have HWW := Lib.hid hW
  have HF1 := Lib.hid hf1
  have HF2 := Lib.hid hf2
  have HPP := Lib.hid (And.intro p1 p16)
  have w1 : ¬ W < 1 := by omega
  have w2 : ¬ 3 < W := by omega
  have m1 : ¬ m < 0 := by omega
  have m2 : ¬ 511 < m := by omega
  have i17 : (p : Int) < 17 := by omega
  clear h p1 p16 hA hA1 hA2 hA3 hm hO hP hf1 hf2 hb1 hal hr1 hr2 hW
  have hz : ansZ = #[.int .i64 0, .int .i64 0, .int .i64 0, .slice none 0 0, .slice none 0 0, .int .i64 0, .int .i64 0, .int .i64 0, .int .i64 0, .int .i64 0, .int .i64 0] := rfl
  rw [hz] at d1 d2 d3 l2 HB HC HO
  have b1 : ¬ B < 0 := by omega
  have b2 : ¬ 15 < B := by omega
  have y8 : bits .and .i64 B 8 = 0 := by rcases hBv with rfl | rfl <;> decide
  clear hBv
  go_enter Tryz.func84, Tryz.ntmps84
  go_upto_region 1 with fail
  generalize (w.alloc (.cells A 40)).alloc (.cells #[.int .i64 0, .int .i64 0, .int .i64 0, .slice none 0 0, .slice none 0 0, .int .i64 0, .int .i64 0, .int .i64 0, .int .i64 0, .int .i64 0, .int .i64 0] 37) = v1 at *
  go_upto_region 6 with (go_at_call 158; (with_reducible refine HO.out.mono ?_); rintro e2 v2 ⟨rfl, x2, hk2, hp2, hu2, hs2⟩)
  have HK2 := Lib.hid hk2
  have hzz : ∀ j, x.bs j → j < w.heap.size := HH.out.fs.lt
  have hne : ∀ i, w.heap.size ≤ i → ¬ x.bs i := fun i hi e => by have := hzz i e; omega
  have HU2 := Lib.hid hu2
  have HS2 : Hid (∀ i, x2.bs i → x.bs i ∨ v1.heap.size ≤ i) := Lib.hid hs2
  have HC2 := Lib.hid (HC.out.upd hu2 (hne _ (Nat.le_refl _)))
  have HR2 := Lib.hid (HR.out.upd hu2 (hne _ (Nat.le_succ _)))
  have HP2 := Lib.hid hp2
  have c2 := hk2.fsp
  have HHD := Lib.hid (hold_is hk2.fs (i := 1) (by decide) (n := 2) rfl (HP.out _ hp2).1 (HP.out _ hp2).2.1 (HP.out _ hp2).2.2)
  clear hk2 hp2 hu2 hs2 HO d1 d2 d3 l2
  go_upto_region 9 with (go_at_call 159; (with_reducible refine HHD.out.mono ?_); rintro e3 v3 ⟨rfl, hf3, hu3⟩)
  have HK3 := Lib.hid (HK2.out.hold hf3 hu3)
  have HLT : Hid (w.heap.size + 1 < v1.heap.size) := Lib.hid HR.out.lt
  have hhb : ∀ i, w.heap.size ≤ i → i < v1.heap.size → ¬ i = fc.hb := fun i h1 h2 e => by
    have := HS2.out fc.hb (HK2.out.fs.bm _ (.inr (.inr (.inl rfl))))
    rcases this with q | q
    · exact hne _ h1 (e ▸ q)
    · omega
  have HC3 := Lib.hid (HC2.out.upd hu3 (hhb _ (Nat.le_refl _) (by have := HLT.out; omega)))
  have HR3 := Lib.hid (HR2.out.upd hu3 (hhb _ (Nat.le_succ _) HLT.out))
  have HU3 := Lib.hid hu3
  clear hf3 hu3 hhb HC2 HR2 HHD c2
  have HS : Hid (∀ wx, Below v3.heap.size v3 wx → (wx.cell? ⟨k.K, 6, none⟩ = some (.pointer (some ⟨k.Fi, 0, none⟩)) ∧ wx.cell? ⟨w.heap.size, 1, none⟩ = some (.int .i64 W) ∧ wx.cell? ⟨w.heap.size, 2, none⟩ = some (.int .i64 B))) := Lib.hid (fun wx hb => ⟨by rw [(HK3.out.keep hb).kt.kr.cell (by decide), HK3.out.kt.c6], ((HC3.out.keep hb).cell 1).trans HAA.out.1, ((HC3.out.keep hb).cell 2).trans HAA.out.2⟩)
  have hFi : k.Fi < w.heap.size := HH.out.kt.lt (by rw [HH.out.kt.tFi]; decide)
  have hKF : k.K ≠ k.Fi := fun e => by
    have t1 := HH.out.kt.tK
    rw [e, HH.out.kt.tFi] at t1
    cases t1
  have HS4 : Hid (∀ wx w', Below v3.heap.size v3 wx → Upd (fun i => i = k.Fi) wx w' → (w'.cell? ⟨k.K, 6, none⟩ = some (.pointer (some ⟨k.Fi, 0, none⟩)) ∧ w'.cell? ⟨w.heap.size, 1, none⟩ = some (.int .i64 W) ∧ w'.cell? ⟨w.heap.size, 2, none⟩ = some (.int .i64 B))) := Lib.hid (fun wx w' hb hu => by
    obtain ⟨t1, t2, t3⟩ := HS.out wx hb
    have lt : ∀ {b o v}, wx.cell? ⟨b, o, none⟩ = some v → b < wx.heap.size := fun e => World.block_lt_of_cell? wx _ e
    exact ⟨(hu.cell (lt t1) hKF).trans t1, (hu.cell (lt t2) (by omega)).trans t2, (hu.cell (lt t3) (by omega)).trans t3⟩)
  have HOP : Hid (∀ wx, Below v3.heap.size v3 wx → Calls Tryz.prog 160 #[.pointer (some ⟨k.Fi, 0, none⟩), .int .i64 p, .agg #[.int .i64 1, .int .i64 2, .int .i64 W, .bool false, .int .i64 0]] wx fun e w' => ∃ j k0 : Nat, j < 8 ∧ k0 < 32 ∧ e = .returned (.tuple #[.int .i64 j, .int .i64 0]) ∧ OpenLaw.OTab w' k.Fi (OpenLaw.updF s.fs k0 ⟨1, 2, W, false, 0, 1⟩) (OpenLaw.updN s.fd (p * 8 + j) (k0 + 1)) ∧ Upd (fun i => i = k.Fi) wx w') := Lib.hid (fun wx hb => by
    refine (OpenLaw.open_is (kd := 1) (id := 2) (may := W) (by decide) (by decide) (HK3.out.keep hb).kt.fi HPP.out.1 HPP.out.2 (by decide) (by have := HWW.out; omega) HWW.out.2).mono ?_
    rintro e w' ⟨hkb, ⟨j, k0, hj, -, -, hk0, -, -, rfl, ho⟩ | ⟨q, -⟩⟩
    · exact ⟨j, k0, hj, hk0, rfl, ho, kb_upd hkb rfl⟩
    · exfalso
      rcases q with q | q
      · obtain ⟨j, hj, e⟩ := HF1.out
        exact q j hj e
      · obtain ⟨j, hj, e⟩ := HF2.out
        exact q j hj e)
  clear HAA HWW HF1 HF2 HPP
  go_region_held3 (fun wx => wx.cell? ⟨k.K, 6, none⟩ = some (.pointer (some ⟨k.Fi, 0, none⟩)) ∧ wx.cell? ⟨w.heap.size, 1, none⟩ = some (.int .i64 W) ∧ wx.cell? ⟨w.heap.size, 2, none⟩ = some (.int .i64 B)) (first | (with_reducible exact HS.out _ (Below.refl _ _)) | (with_reducible exact HS.out _ (Below.refl _ _).drew) | (with_reducible exact HS4.out _ _ (Below.refl _ _).drew HU4.out) | fail) (first | (go_at_call 160; (with_reducible refine (HOP.out _ (Below.refl _ _).drew).mono ?_); rintro e4 v4 ⟨j, k0, hj, hk0, rfl, ho4, hu4⟩; have HU4 := Lib.hid hu4; have HO4 := Lib.hid (And.intro hj (And.intro hk0 ho4)); clear hj hk0 ho4 hu4) | fail)
  have HK4 := Lib.hid ((HK3.out.keep (Below.refl _ _).drew).files HO4.out.2.2 HU4.out)
  have hr4 := HR3.out.drew.upd HU4.out (by omega)
  obtain ⟨hX, hone⟩ := ansN3' 0 (j : Int) 0
  have hst := ans_st hr4 hX hone
  have HLD := Lib.hid (ans_ldV hr4 hX)
  have hbd := bd_aI (j : Int)
  have hu5 : Upd (fun i => i = w.heap.size + 1) v4 (v4.setRow (w.heap.size + 1) (ansV 0 j 0 (.slice none 0 0))) := Upd.setRow v4 _ rfl
  have HFIN : Hid (KF (v4.setRow (w.heap.size + 1) (ansV 0 j 0 (.slice none 0 0))) k (OpenTo s p W j k0) fc (heldTo x2) ∧ Upd (fun i => i = k.Fi ∨ x.bs i ∨ w.heap.size ≤ i) w (v4.setRow (w.heap.size + 1) (ansV 0 j 0 (.slice none 0 0))) ∧ ∀ i, x2.bs i → x.bs i ∨ w.heap.size ≤ i) := Lib.hid (by
    have hlt1 := HLT.out
    have hs : ∀ i, x2.bs i → x.bs i ∨ w.heap.size + 2 ≤ i := fun i e => (HS2.out i e).imp_right fun q => by omega
    have hz : ∀ i, s.tag i ≠ 0 → i < w.heap.size := fun i e => HH.out.kt.lt e
    refine ⟨HK4.out.upd hu5 (fun i hi e => ?_) (fun i hi e => ?_), ?_, fun i e => (hs i e).imp_right fun q => by omega⟩
    · have := hz i hi; omega
    · rcases hs i hi with q | q
      · have := hzz i q; omega
      · omega
    · have hhb : x.bs fc.hb ∨ w.heap.size ≤ fc.hb := (hs fc.hb (HK2.out.fs.bm _ (.inr (.inr (.inl rfl))))).imp_right fun q => by omega
      refine (((Upd.below HB.out).trans (HU2.out.mono fun i _ e => .inr (.inl e))).trans (HU3.out.mono fun i _ e => ?_)).trans ((Upd.below (Below.refl v3.heap.size v3).drew).trans ((HU4.out.mono fun i _ e => .inl e).trans (hu5.mono fun i _ e => .inr (.inr (by omega)))))
      rw [e]
      exact .inr hhb)
  have HX := Lib.hid (And.intro HO4.out.1 (And.intro HO4.out.2.1 HP2.out))
  clear hr4 hX hone hu5 HK4 HU4 HO4 HS HS4 HOP hFi hKF hzz hne
  generalize hZ : ansV 0 (j : Int) 0 (.slice none 0 0) = Z at hst HLD hbd HFIN ⊢
  have HZ := Lib.hid hZ
  clear hZ
  go_wp2_with fail
  exact bodyPost_ret (v := .agg Z) (by rw [results_cell1 rfl]; simp [asAddr, Result.andThen, HLD.out]) rfl ⟨j, k0, x2, HX.out.1, HX.out.2.1, HX.out.2.2, HFIN.out.1, by rw [HZ.out], HFIN.out.2⟩
end
end Go.Proofs.YtcdjkheelbikjaaGreatDoor
