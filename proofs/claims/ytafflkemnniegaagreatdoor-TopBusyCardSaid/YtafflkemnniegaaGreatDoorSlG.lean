/- Walks of the kernel where processes sleep: wake, sleep. The walk of kernel.sleep at any timers. The walk of kernel.Tick where processes sleep. Walks of the kernel where processes sleep: do and process at the calls CPid and CSleep. -/
import Derived.Test.YtafflkemnniegaaGreatDoorSlA
import Derived.Test.YtafflkemnniegaaGreatDoorBuC
import Derived.Test.YtafflkemnniegaaGreatDoorKerR
namespace Go.Proofs.YtafflkemnniegaaGreatDoor
open Go.RowKit
set_option linter.unusedVariables false
set_option linter.unusedSimpArgs false
section
variable {w w0 w1 w2 : World} {k : KC} {s s0 s' : KSt} {p i : Nat} {x : Tk}
set_option maxRecDepth 100000 in
set_option maxHeartbeats 1000000 in
theorem kwake_is (h : KT w k s) (p16 : p ≤ 16) (hi : idG s.l p = some i) (hx : s.l[i]? = some x) (hr : x.rd = false) : Calls Tryz.prog 20 #[.pointer (some ⟨k.K, 0, none⟩), .int .i64 p] w fun e w' => e = .returned (.tuple #[]) ∧ ∃ tag', KG s k w w' { s with c := upV s.c (8 + p * 38 + 37) (.bool false), l := fillG (s.l.set i { x with v := wokeV s.l x, rd := true, cpu := -1 }) s.nc, tag := tag' } := by
  have p17 : (p : Int) < 17 := by omega
  have q37 : w.cell? ⟨k.K, 8 + p * 38 + 37, none⟩ = some (s.c (8 + p * 38 + 37)) := h.kr.cell (by omega)
  have f37 := h.kr.fz (8 + p * 38 + 37)
  have HG := Lib.hid (h.start.cell (i := 8 + p * 38 + 37) (by omega) (by omega) (fun p' => by omega) (.bool false))
  obtain ⟨T, C, had, -⟩ := h.ru.rows (by have := (List.getElem?_eq_some_iff.1 hx).1; omega)
  have HAD := Lib.hid had
  have HX := Lib.hid (And.intro hi (And.intro hx hr))
  have HN := Lib.hid h.cn
  clear h had hi hx hr
  go_enter Tryz.func20, Tryz.ntmps20
  go_upto_region 1 with fail
  generalize w.setCell ⟨k.K, 8 + p * 38 + 37, none⟩ (.bool false) = W1 at *
  clear q37 f37
  have d4 : W1.cell? ⟨k.K, 4, none⟩ = some (.pointer (some ⟨k.R, 0, none⟩)) := by rw [HG.out.kt.kr.cell (by decide), HG.out.kt.c4]
  have hru : RunG W1 k.R (some ⟨T, 0, none⟩) s.cap s.nc s.tk (onePin s.nc) s.l := by
    have := HG.out.kt.ru
    rw [show ({ s with c := upV s.c (8 + p * 38 + 37) (.bool false) } : KSt).ad = some ⟨T, 0, none⟩ from HAD.out] at this
    exact this
  have HW := Lib.hid (wakeG_is hru HN.out.1 HN.out.2 HX.out.1 HX.out.2.1 HX.out.2.2)
  clear hru
  go_wp2_with (go_at_call 54; refine HW.out.mono ?_; rintro e3 w3 ⟨rfl, hr3, hu3⟩; have hg3 := HG.out.run hr3 (by show Upd (rS k.R s.ad) W1 w3; rw [HAD.out]; exact hu3) (fun j e => .inl (by show rS k.R s.ad j; rw [HAD.out]; exact e)); have HG3 := Lib.hid hg3; clear hr3 hu3 hg3)
  (try simp only [Exit.inBlock, Exit.then]); first | (refine bodyPost_ret (results_none rfl _ _ _) rfl ?_) | (refine bodyPost_end (results_none rfl _ _ _) rfl ?_)
  obtain ⟨t, hg⟩ := HG3.out
  refine ⟨rfl, t, ?_⟩
  rw [HAD.out]
  exact hg
set_option maxRecDepth 100000 in
set_option maxHeartbeats 2000000 in
theorem ksleep_is (h : KT w k s) (p16 : p ≤ 16) {n nw : Int} (n1 : 1 ≤ n) (n9 : n ≤ 1000) (h9 : s.c 654 = .int .u32 nw) (w0' : 0 ≤ s.wn) (w1' : s.wn ≤ nw) (w2' : nw < 1000000) (hv : s.wv = .slice none 0 0) (hwl : s.wl = []) (hi : idG s.l p = some i) (hx : s.l[i]? = some x) (hr : x.rd = true) : Calls Tryz.prog 137 #[.pointer (some ⟨k.K, 0, none⟩), .int .i64 p, .int .i64 n] w fun e w' => e = .returned (.int .i64 0) ∧ ∃ v' tag', KG s k w w' { s with c := upV s.c (8 + p * 38 + 37) (.bool true), l := fillG (s.l.set i { x with rd := false, cpu := -1 }) s.nc, wv := v', wl := [(nw + n, (p : Int))], tag := tag' } := by
  have p17 : (p : Int) < 17 := by omega
  have ey : IntKind.u32.wrap (nw + IntKind.u32.wrap n) = nw + n := by rw [IntWalk.u32_in n (by omega), IntWalk.u32_in _ (by omega)]
  have HEY := Lib.hid ey
  clear ey
  have j0 : ¬ n < 0 := by omega
  have j1 : ¬ n = 0 := by omega
  have j2 : ¬ 1000 < n := by omega
  have HK := Lib.hid h
  obtain ⟨T, C, had, -⟩ := h.ru.rows (by have := (List.getElem?_eq_some_iff.1 hx).1; omega)
  have HAD := Lib.hid had
  have HX := Lib.hid (And.intro hi (And.intro hx hr))
  have HN := Lib.hid h.cn
  have HWH : Hid (∀ wx, Below w.heap.size w wx → WhlG wx k.Wh s.wn (.slice none 0 0) []) := Lib.hid fun wx hb => by
    have := (h.keep hb).wh
    rw [hv, hwl] at this
    exact this
  have HM := Lib.hid (And.intro w0' (And.intro w1' (And.intro w2' (And.intro n1 n9))))
  have HWN := Lib.hid (And.intro hv hwl)
  have q5 : w.cell? ⟨k.K, 5, none⟩ = some (.pointer (some ⟨k.Wh, 0, none⟩)) := by rw [h.kr.cell (by decide), h.c5]
  have q9 : w.cell? ⟨k.K, 654, none⟩ = some (.int .u32 nw) := by rw [h.kr.cell (by decide), h9]
  clear h had hi hx hr w0' w1' w2' n1 n9 hv hwl h9
  go_enter Tryz.func137, Tryz.ntmps137
  go_upto_region 5 with fail
  have HG1 := Lib.hid (HK.out.start.keep (Below.refl _ _).drew)
  have hbd : Below w.heap.size w w.drew := (Below.refl _ _).drew
  have HAD2 := Lib.hid (wadd0_is (p := p) (b := IntKind.u32.wrap (nw + IntKind.u32.wrap n)) (HWH.out w.drew hbd) HM.out.1 (by rw [HEY.out]; have := HM.out; omega) (by rw [HEY.out]; have := HM.out; omega))
  have hkr := HG1.out.kt.kr
  have d5 : w.drew.cell? ⟨k.K, 5, none⟩ = some (.pointer (some ⟨k.Wh, 0, none⟩)) := q5
  have d9 : w.drew.cell? ⟨k.K, 654, none⟩ = some (.int .u32 nw) := q9
  have HD0 : Hid (w.drew.cell? ⟨k.K, 5, none⟩ = some (.pointer (some ⟨k.Wh, 0, none⟩)) ∧ w.drew.cell? ⟨k.K, 654, none⟩ = some (.int .u32 nw)) := Lib.hid ⟨d5, d9⟩
  have hWn : k.Wh ≠ k.K := fun e => by
    have a := HG1.out.kt.tK
    have b := HG1.out.kt.tWh k.Wh (.inl rfl)
    rw [e, a] at b
    exact absurd b (by decide)
  have HKK : Hid (∀ w2, Upd (fun j => j = k.Wh) w.drew w2 → w2.cell? ⟨k.K, 5, none⟩ = some (.pointer (some ⟨k.Wh, 0, none⟩)) ∧ w2.cell? ⟨k.K, 654, none⟩ = some (.int .u32 nw)) := Lib.hid fun w2 hu => ⟨(hu.cell hkr.lt (Ne.symm hWn)).trans d5, (hu.cell hkr.lt (Ne.symm hWn)).trans d9⟩
  clear hkr d5 d9 hWn q5 q9 hbd
  go_region_held3 (fun wx => wx.cell? ⟨k.K, 5, none⟩ = some (.pointer (some ⟨k.Wh, 0, none⟩)) ∧ wx.cell? ⟨k.K, 654, none⟩ = some (.int .u32 nw)) (first | assumption | exact HD0.out | go_keep)
    (first | (go_at_call 221; (with_reducible refine HAD2.out.mono ?_); rintro e2 w2 ⟨rfl, v2, hr2, hu2, hf2⟩; have hS := HKK.out w2 hu2; have HR2 := Lib.hid hr2; have HU2 := Lib.hid hu2; have HF2 := Lib.hid hf2; clear hr2 hu2 hf2) | fail)
  rw [HEY.out] at HR2
  obtain ⟨t2, hg2⟩ := HG1.out.whl (w2 := w2) (nw' := s.wn) (v' := v2) (l' := [(nw + n, (p : Int))]) HR2.out (HU2.out.mono fun j _ e => .inl e) (fun j e => by
    rcases e with e | e
    · exact .inl (.inl e)
    · exact .inr (HF2.out j e))
  have HG2 := Lib.hid hg2
  clear hg2 hS HD0 HKK HR2 HU2 HF2 HAD2 HG1
  have d4 : w2.cell? ⟨k.K, 4, none⟩ = some (.pointer (some ⟨k.R, 0, none⟩)) := by rw [HG2.out.kt.kr.cell (by decide), HG2.out.kt.c4]
  have hru : RunG w2 k.R (some ⟨T, 0, none⟩) s.cap s.nc s.tk (onePin s.nc) s.l := by
    have := HG2.out.kt.ru
    rw [show ({ s with wn := s.wn, wv := v2, wl := [(nw + n, (p : Int))], tag := t2 } : KSt).ad = some ⟨T, 0, none⟩ from HAD.out] at this
    exact this
  have HB := Lib.hid (blockG_is hru HN.out.2 HX.out.1 HX.out.2.1 HX.out.2.2)
  clear hru
  go_upto_region 9 with (go_at_call 222; refine HB.out.mono ?_; rintro e3 w3 ⟨rfl, hr3, hu3⟩; have hg3 := HG2.out.run hr3 (by show Upd (rS k.R s.ad) w2 w3; rw [HAD.out]; exact hu3) (fun j e => .inl (by show rS k.R s.ad j; rw [HAD.out]; exact e)); have HG3 := Lib.hid hg3; clear hr3 hu3 hg3)
  obtain ⟨t3, hg3⟩ := HG3.out
  have q37 : w3.cell? ⟨k.K, 8 + p * 38 + 37, none⟩ = some (s.c (8 + p * 38 + 37)) := hg3.kt.kr.cell (by omega)
  have f37 := hg3.kt.kr.fz (8 + p * 38 + 37)
  have HG4 := Lib.hid (hg3.cell (i := 8 + p * 38 + 37) (by omega) (by omega) (fun p' => by omega) (.bool true))
  clear hg3 HG3 HG2 HB d4
  go_wp2_with fail
  go_ret
  refine ⟨rfl, v2, t3, ?_⟩
  have h4 := HG4.out
  rw [HAD.out]
  exact h4
end
end Go.Proofs.YtafflkemnniegaaGreatDoor
namespace Go.Proofs.YtafflkemnniegaaGreatDoor
open Go.RowKit
set_option linter.unusedVariables false
set_option linter.unusedSimpArgs false
section
variable {w w0 w1 w2 : World} {k : KC} {s s0 s' : KSt} {p i : Nat} {x : Tk}
set_option maxRecDepth 100000 in
set_option maxHeartbeats 2000000 in
theorem ksleepA_is (h : KT w k s) (p16 : p ≤ 16) {n nw : Int} (n1 : 1 ≤ n) (n9 : n ≤ 1000) (h9 : s.c 654 = .int .u32 nw) (w0' : 0 ≤ s.wn) (w1' : s.wn ≤ nw) (w2' : nw < 1000000) (hl : s.wl.length ≤ 200) (hn : ∀ (k : Nat) (t : Int × Int), s.wl[k]? = some t → t.2 ≠ p) (ht : ∀ (k : Nat) (t : Int × Int), s.wl[k]? = some t → 0 ≤ t.1 ∧ t.1 < 1000000000) (hi : idG s.l p = some i) (hx : s.l[i]? = some x) (hr : x.rd = true) : Calls Tryz.prog 137 #[.pointer (some ⟨k.K, 0, none⟩), .int .i64 p, .int .i64 n] w fun e w' => e = .returned (.int .i64 0) ∧ ∃ v' tag', KG s k w w' { s with c := upV s.c (8 + p * 38 + 37) (.bool true), l := fillG (s.l.set i { x with rd := false, cpu := -1 }) s.nc, wv := v', wl := insT s.wl (nw + n, (p : Int)), tag := tag' } := by
  have p17 : (p : Int) < 17 := by omega
  have ey : IntKind.u32.wrap (nw + IntKind.u32.wrap n) = nw + n := by rw [IntWalk.u32_in n (by omega), IntWalk.u32_in _ (by omega)]
  have HEY := Lib.hid ey
  clear ey
  have j0 : ¬ n < 0 := by omega
  have j1 : ¬ n = 0 := by omega
  have j2 : ¬ 1000 < n := by omega
  have HK := Lib.hid h
  obtain ⟨T, C, had, -⟩ := h.ru.rows (by have := (List.getElem?_eq_some_iff.1 hx).1; omega)
  have HAD := Lib.hid had
  have HX := Lib.hid (And.intro hi (And.intro hx hr))
  have HN := Lib.hid h.cn
  have HWH : Hid (∀ wx, Below w.heap.size w wx → WhlG wx k.Wh s.wn s.wv s.wl) := Lib.hid fun wx hb => (h.keep hb).wh
  have HM := Lib.hid (And.intro w0' (And.intro w1' (And.intro w2' (And.intro n1 n9))))
  have HWN := Lib.hid (And.intro hl (And.intro hn ht))
  have q5 : w.cell? ⟨k.K, 5, none⟩ = some (.pointer (some ⟨k.Wh, 0, none⟩)) := by rw [h.kr.cell (by decide), h.c5]
  have q9 : w.cell? ⟨k.K, 654, none⟩ = some (.int .u32 nw) := by rw [h.kr.cell (by decide), h9]
  clear h had hi hx hr w0' w1' w2' n1 n9 hl hn ht h9
  go_enter Tryz.func137, Tryz.ntmps137
  go_upto_region 5 with fail
  have HG1 := Lib.hid (HK.out.start.keep (Below.refl _ _).drew)
  have hbd : Below w.heap.size w w.drew := (Below.refl _ _).drew
  have HAD2 := Lib.hid (waddA_is (p := p) (b := IntKind.u32.wrap (nw + IntKind.u32.wrap n)) (HWH.out w.drew hbd) HWN.out.1 HWN.out.2.1 HWN.out.2.2 HM.out.1 (by rw [HEY.out]; have := HM.out; omega) (by rw [HEY.out]; have := HM.out; omega))
  have hkr := HG1.out.kt.kr
  have d5 : w.drew.cell? ⟨k.K, 5, none⟩ = some (.pointer (some ⟨k.Wh, 0, none⟩)) := q5
  have d9 : w.drew.cell? ⟨k.K, 654, none⟩ = some (.int .u32 nw) := q9
  have HD0 : Hid (w.drew.cell? ⟨k.K, 5, none⟩ = some (.pointer (some ⟨k.Wh, 0, none⟩)) ∧ w.drew.cell? ⟨k.K, 654, none⟩ = some (.int .u32 nw)) := Lib.hid ⟨d5, d9⟩
  have hWn : ¬ wB k.Wh s.wv k.K := fun e => by
    have a := HG1.out.kt.tK
    have b := HG1.out.kt.tWh k.K e
    rw [a] at b
    exact absurd b (by decide)
  have HKK : Hid (∀ w2, Upd (wB k.Wh s.wv) w.drew w2 → w2.cell? ⟨k.K, 5, none⟩ = some (.pointer (some ⟨k.Wh, 0, none⟩)) ∧ w2.cell? ⟨k.K, 654, none⟩ = some (.int .u32 nw)) := Lib.hid fun w2 hu => ⟨(hu.cell hkr.lt hWn).trans d5, (hu.cell hkr.lt hWn).trans d9⟩
  clear hkr d5 d9 hWn q5 q9 hbd
  go_region_held3 (fun wx => wx.cell? ⟨k.K, 5, none⟩ = some (.pointer (some ⟨k.Wh, 0, none⟩)) ∧ wx.cell? ⟨k.K, 654, none⟩ = some (.int .u32 nw)) (first | assumption | exact HD0.out | go_keep)
    (first | (go_at_call 221; (with_reducible refine HAD2.out.mono ?_); rintro e2 w2 ⟨rfl, v2, hr2, hu2, hf2⟩; have hS := HKK.out w2 hu2; have HR2 := Lib.hid hr2; have HU2 := Lib.hid hu2; have HF2 := Lib.hid hf2; clear hr2 hu2 hf2) | fail)
  rw [HEY.out] at HR2
  obtain ⟨t2, hg2⟩ := HG1.out.whl (w2 := w2) (nw' := s.wn) (v' := v2) (l' := insT s.wl (nw + n, (p : Int))) HR2.out HU2.out (fun j e => by
    rcases e with e | e
    · exact .inl (.inl e)
    · exact (HF2.out j e).imp_left .inr)
  have HG2 := Lib.hid hg2
  clear hg2 hS HD0 HKK HR2 HU2 HF2 HAD2 HG1
  have d4 : w2.cell? ⟨k.K, 4, none⟩ = some (.pointer (some ⟨k.R, 0, none⟩)) := by rw [HG2.out.kt.kr.cell (by decide), HG2.out.kt.c4]
  have hru : RunG w2 k.R (some ⟨T, 0, none⟩) s.cap s.nc s.tk (onePin s.nc) s.l := by
    have := HG2.out.kt.ru
    rw [show ({ s with wn := s.wn, wv := v2, wl := insT s.wl (nw + n, (p : Int)), tag := t2 } : KSt).ad = some ⟨T, 0, none⟩ from HAD.out] at this
    exact this
  have HB := Lib.hid (blockG_is hru HN.out.2 HX.out.1 HX.out.2.1 HX.out.2.2)
  clear hru
  go_upto_region 9 with (go_at_call 222; refine HB.out.mono ?_; rintro e3 w3 ⟨rfl, hr3, hu3⟩; have hg3 := HG2.out.run hr3 (by show Upd (rS k.R s.ad) w2 w3; rw [HAD.out]; exact hu3) (fun j e => .inl (by show rS k.R s.ad j; rw [HAD.out]; exact e)); have HG3 := Lib.hid hg3; clear hr3 hu3 hg3)
  obtain ⟨t3, hg3⟩ := HG3.out
  have q37 : w3.cell? ⟨k.K, 8 + p * 38 + 37, none⟩ = some (s.c (8 + p * 38 + 37)) := hg3.kt.kr.cell (by omega)
  have f37 := hg3.kt.kr.fz (8 + p * 38 + 37)
  have HG4 := Lib.hid (hg3.cell (i := 8 + p * 38 + 37) (by omega) (by omega) (fun p' => by omega) (.bool true))
  clear hg3 HG3 HG2 HB d4
  go_wp2_with fail
  go_ret
  refine ⟨rfl, v2, t3, ?_⟩
  have h4 := HG4.out
  rw [HAD.out]
  exact h4
end
end Go.Proofs.YtafflkemnniegaaGreatDoor
namespace Go.Proofs.YtafflkemnniegaaGreatDoor
open Go.RowKit
set_option linter.unusedVariables false
set_option linter.unusedSimpArgs false
/-- processes wake, one behind the other -/
inductive Wakes (nc : Nat) : List Tk → (Nat → Value) → List Int → List Tk → (Nat → Value) → Prop
  | nil (l : List Tk) (c : Nat → Value) : Wakes nc l c [] l c
  | cons {l l' : List Tk} {c c' : Nat → Value} {ids : List Int} {p i : Nat} {x : Tk} (h16 : p ≤ 16) (hi : idG l p = some i) (hx : l[i]? = some x) (hr : x.rd = false)
      (h : Wakes nc (fillG (l.set i { x with v := wokeV l x, rd := true, cpu := -1 }) nc) (upV c (8 + p * 38 + 37) (.bool false)) ids l' c') : Wakes nc l c ((p : Int) :: ids) l' c'
section
variable {w w0 w1 w2 : World} {k : KC} {s s0 s' : KSt}
theorem KG.whl2 {nw' : Int} {v' : Value} {l' : List (Int × Int)} (h : KG s0 k w w1 s) (hw : WhlG w2 k.Wh nw' v' l') (hu : Upd (wB k.Wh s.wv) w1 w2) (hB : ∀ j, wB k.Wh v' j → wB k.Wh s.wv j ∨ w1.heap.size ≤ j) : ∃ tag', KG s0 k w w2 { s with wn := nw', wv := v', wl := l', tag := tag' } ∧ ∀ j, w1.heap.size ≤ j → ¬ wB k.Wh v' j → tag' j = 0 :=
  ⟨_, h.step (h.kt.whl hw hu hB) hu (fun j e => by rw [h.kt.tWh j e]; decide) (fun j e => by
    rcases Nat.lt_or_ge j w1.heap.size with q | q
    · have e : tg s.tag w1.heap.size (wB k.Wh v') 2 j ≠ 0 := e
      rw [tg_old q] at e; exact .inl e
    · exact .inr q), fun j hj hn => tg_no hj hn⟩
/-- what Tick asks for, at any timers -/
structure MayTickT (s : KSt) (nw : Int) (b : Int) (l1 : List Tk) (c1 : Nat → Value) : Prop where
  c0 : s.c 0 = .int .i64 s.nc
  c9 : s.c 654 = .int .u32 nw
  tl : s.wl.length ≤ 1000
  tm : ∀ (k : Nat) (t : Int × Int), s.wl[k]? = some t → 0 ≤ t.1 ∧ t.1 < 1000000000
  n0 : 0 ≤ s.wn
  n1 : s.wn ≤ nw
  n2 : nw < 100000000
  t0 : 0 ≤ s.tk
  t1 : s.tk < 900000
  wk : Wakes s.nc s.l (upV s.c 654 (.int .u32 (nw + 1))) (dueI (nw + 1) s.wl) l1 c1
  v : VOk b l1
  b1 : b < 100000000000
theorem Wakes.c0 {nc : Nat} {l l' : List Tk} {c c' : Nat → Value} {ids : List Int} (h : Wakes nc l c ids l' c') : c' 0 = c 0 := by
  induction h with
  | nil => rfl
  | cons h16 hi hx hr h ih => rw [ih]; exact if_neg (by omega)
theorem Wakes.inv {nc : Nat} {l l' : List Tk} {c c' : Nat → Value} {ids : List Int} {z : Int} (h : Wakes nc l c (z :: ids) l' c') : ∃ (p i : Nat) (x : Tk), z = (p : Int) ∧ p ≤ 16 ∧ idG l p = some i ∧ l[i]? = some x ∧ x.rd = false ∧ Wakes nc (fillG (l.set i { x with v := wokeV l x, rd := true, cpu := -1 }) nc) (upV c (8 + p * 38 + 37) (.bool false)) ids l' c' := by
  cases h with
  | cons h16 hi hx hr h => exact ⟨_, _, _, rfl, h16, hi, hx, hr, h⟩
theorem Wakes.inv0 {nc : Nat} {l l' : List Tk} {c c' : Nat → Value} (h : Wakes nc l c [] l' c') : l' = l ∧ c' = c := by
  cases h
  exact ⟨rfl, rfl⟩
set_option maxRecDepth 100000 in
set_option maxHeartbeats 2000000 in
theorem ktickT_is (h : KT w k s) {nw b : Int} {l1 : List Tk} {c1 : Nat → Value} (hm : MayTickT s nw b l1 c1) {g cap : Nat} (hv : s.wv = .slice (some ⟨g, 0, none⟩) s.wl.length cap) : Calls Tryz.prog 7 #[.pointer (some ⟨k.K, 0, none⟩)] w fun e w' => e = .returned (.tuple #[]) ∧ ∃ v' tag', KG s k w w' { s with c := c1, wn := nw + 1, wv := v', wl := s.wl.drop (dueN (nw + 1) s.wl), l := tickAll l1 s.nc s.nc, tk := s.tk + s.nc, tag := tag' } := by
  have y1 : (nw + 1) % 4294967296 = nw + 1 := by have := hm.n0; have := hm.n1; have := hm.n2; omega
  have q9 : w.cell? ⟨k.K, 654, none⟩ = some (.int .u32 nw) := by rw [h.kr.cell (by decide), hm.c9]
  have f9 := h.kr.fz 654
  have HG0 := Lib.hid (h.start.cell (i := 654) (by decide) (by decide) (fun p => by omega) (.int .u32 (nw + 1)))
  have HM := Lib.hid hm
  have HV := Lib.hid hv
  clear h hm hv
  go_enter Tryz.func7, Tryz.ntmps7
  go_upto_region 1 with fail
  generalize hW1 : w.setCell ⟨k.K, 654, none⟩ (.int .u32 (nw + 1)) = W1 at *
  clear hW1 q9 f9 y1
  have HG1 := Lib.hid (HG0.out.keep (Below.refl _ _).drew)
  have HWR : Hid (WhlG W1.drew k.Wh s.wn (.slice (some ⟨g, 0, none⟩) s.wl.length cap) s.wl) := Lib.hid (by
    have := HG1.out.kt.wh
    rw [show ({ s with c := upV s.c 654 (.int .u32 (nw + 1)) } : KSt).wv = .slice (some ⟨g, 0, none⟩) s.wl.length cap from HV.out] at this
    exact this)
  have HWS := Lib.hid (wstepT_is HWR.out HM.out.n0 (show s.wn ≤ nw + 1 by have := HM.out.n1; omega) (by have := HM.out.n2; omega) HM.out.tl HM.out.tm)
  have hkr := HG1.out.kt.kr
  have d5 : W1.drew.cell? ⟨k.K, 5, none⟩ = some (.pointer (some ⟨k.Wh, 0, none⟩)) := by rw [hkr.cell (by decide), HG1.out.kt.c5]
  have d9 : W1.drew.cell? ⟨k.K, 654, none⟩ = some (.int .u32 (nw + 1)) := by
    rw [hkr.cell (by decide)]
    rfl
  have HD0 : Hid (W1.drew.cell? ⟨k.K, 5, none⟩ = some (.pointer (some ⟨k.Wh, 0, none⟩)) ∧ W1.drew.cell? ⟨k.K, 654, none⟩ = some (.int .u32 (nw + 1))) := Lib.hid ⟨d5, d9⟩
  have hWn : k.Wh ≠ k.K := fun e => by
    have a := HG1.out.kt.tK
    have b := HG1.out.kt.tWh k.Wh (.inl rfl)
    rw [e, a] at b
    exact absurd b (by decide)
  have HKK : Hid (∀ w2, Upd (fun j => j = k.Wh) W1.drew w2 → w2.cell? ⟨k.K, 5, none⟩ = some (.pointer (some ⟨k.Wh, 0, none⟩)) ∧ w2.cell? ⟨k.K, 654, none⟩ = some (.int .u32 (nw + 1))) := Lib.hid fun w2 hu => ⟨(hu.cell hkr.lt (Ne.symm hWn)).trans d5, (hu.cell hkr.lt (Ne.symm hWn)).trans d9⟩
  clear hkr d5 d9 hWn
  go_region_held3 (fun wx => wx.cell? ⟨k.K, 5, none⟩ = some (.pointer (some ⟨k.Wh, 0, none⟩)) ∧ wx.cell? ⟨k.K, 654, none⟩ = some (.int .u32 (nw + 1))) (first | assumption | exact HD0.out | go_keep)
    (first | (go_at_call 19; (with_reducible refine HWS.out.mono ?_); rintro e2 w2 ⟨out, v', rfl, ho2, hr2, hu2, hf2⟩; have hS := HKK.out w2 hu2; have HO2 := Lib.hid ho2; have HR2 := Lib.hid hr2; have HU2 := Lib.hid hu2; have HF2 := Lib.hid hf2; clear ho2 hr2 hu2 hf2) | fail)
  obtain ⟨t2, hg2, htz⟩ := HG1.out.whl2 (w2 := w2) (nw' := nw + 1) (v' := v') (l' := s.wl.drop (dueN (nw + 1) s.wl)) HR2.out (HU2.out.mono fun j _ e => .inl e) (fun j e => by
    rcases e with e | e
    · exact .inl (.inl e)
    · exact .inr (HF2.out j e).1)
  have HG2 := Lib.hid hg2
  have HTZ : Hid (∀ j, out.ownBlock = some j → t2 j = 0) := Lib.hid fun j hj => htz j (HO2.out.lt j hj).1 (fun e => by
    rcases e with e | e
    · have h1 := (HO2.out.lt j hj).1
      have h2 := HWR.out.row.lt
      omega
    · exact (HF2.out j e).2 hj)
  clear hg2 hS HD0 HKK HR2 HU2 HF2 HWS HG1 HG0 htz
  obtain ⟨q, co, rfl⟩ := own_form HO2.out
  obtain ⟨n, hn⟩ : ∃ n, n = dueN (nw + 1) s.wl := ⟨_, rfl⟩
  obtain ⟨ids, hids⟩ : ∃ ids, ids = dueI (nw + 1) s.wl := ⟨_, rfl⟩
  have hwk := HM.out.wk
  have hlen : ids.length = n := by rw [hids, hn]; unfold dueI; rw [List.length_map, List.length_take]; have := dueN_le (nw + 1) s.wl; omega
  rw [← hids] at hwk HO2
  rw [← hn] at HO2 HG2 HTZ ⊢
  have n1000 : (n : Int) ≤ 1000 := by have := dueN_le (nw + 1) s.wl; have := HM.out.tl; omega
  have HLEN := Lib.hid hlen
  have HNN := Lib.hid hn
  have HOC : Hid (∀ wr, Upd (fun j => t2 j ≠ 0) w2 wr → ∀ (j : Nat) (p : Int), ids[j]? = some p → ∃ ob, q = some ⟨ob, 0, none⟩ ∧ wr.cell? ⟨ob, j, none⟩ = some (.int .i64 p)) := Lib.hid fun wr hu j p hj => by
    have hjl := (List.getElem?_eq_some_iff.1 hj).1
    have ho := hu.owns HO2.out (fun g hg e => e (HTZ.out g hg))
    rcases ho.2 with ⟨e, _⟩ | ⟨g', c', cur, e, _⟩
    · have e : (.slice q n co : Value) = .slice none 0 0 := e
      injection e with _ e _
      omega
    · have e : (.slice q n co : Value) = .slice (some ⟨g', 0, none⟩) n c' := e
      injection e with e _ _
      subst e
      refine ⟨g', rfl, ?_⟩
      have := ho.cells (g := g') rfl j (.int .i64 p) (by rw [List.getElem?_map, hj]; rfl)
      rw [Addr.add_lit, Nat.zero_add] at this
      exact this
  have HW0 : Hid (∃ l2 c2 t3, KG { s with c := upV s.c 654 (.int .u32 (nw + 1)), wn := nw + 1, wv := v', wl := s.wl.drop n, tag := t2 } k w2 w2 { s with c := c2, wn := nw + 1, wv := v', wl := s.wl.drop n, l := l2, tag := t3 } ∧ Wakes s.nc l2 c2 (ids.drop 0) l1 c1) := Lib.hid ⟨_, _, _, HG2.out.kt.start, hwk⟩
  clear hids hn hlen hwk HO2 HTZ
  go_wp2_with fail
  go_loopw [28] (fun kv wr => ∃ j : Nat, j ≤ n ∧ kv = .int .i64 j ∧ Hid (∃ l2 c2 t3, KG { s with c := upV s.c 654 (.int .u32 (nw + 1)), wn := nw + 1, wv := v', wl := s.wl.drop n, tag := t2 } k w2 wr { s with c := c2, wn := nw + 1, wv := v', wl := s.wl.drop n, l := l2, tag := t3 } ∧ Wakes s.nc l2 c2 (ids.drop j) l1 c1)) (fun kv _ => n - (intOf kv).toNat)
  case atStart => exact ⟨0, Nat.zero_le _, rfl, HW0⟩
  case round =>
    clear HW0
    obtain ⟨j, hj0, rfl, HR⟩ := hrel
    by_cases hj : j < n
    · have i1 : (j : Int) < n := by omega
      obtain ⟨l2, c2, t3, hg, hwk⟩ := HR.out
      have hjl : j < ids.length := by rw [HLEN.out]; exact hj
      rw [List.drop_eq_getElem_cons hjl] at hwk
      obtain ⟨p, i, x, hz, h16, hi, hx, hr, hwk⟩ := hwk.inv
      obtain ⟨ob, rfl, hcell⟩ := HOC.out wr hg.up j (p : Int) (by rw [List.getElem?_eq_getElem hjl, hz])
      have HK := Lib.hid (kwake_is hg.kt h16 hi hx hr)
      have HG := Lib.hid hg
      have HWK := Lib.hid hwk
      clear hg hi hx hr hz HR
      clear hwk
      clear hwk hjl
      go_wp2_with (go_at_call 20; refine HK.out.mono ?_; rintro e3 w3 ⟨rfl, t4, hg4⟩; have HG4 := Lib.hid (HG.out.trans hg4); clear hg4)
      go_roundw
      case rel => exact ⟨j + 1, by omega, by go_num, Lib.hid ⟨_, _, t4, HG4.out, HWK.out⟩⟩
      case measure => simp [intOf]; omega
    · obtain rfl : j = n := by omega
      obtain ⟨l2, c2, t3, hg, hwk⟩ := HR.out
      rw [List.drop_eq_nil_of_le (by rw [HLEN.out]; exact Nat.le_refl _)] at hwk
      obtain ⟨rfl, rfl⟩ := hwk.inv0
      have HG5 := Lib.hid (HG2.out.trans hg)
      have hc0 : c1 0 = .int .i64 s.nc := by
        have h1 : c1 0 = upV s.c 654 (.int .u32 (nw + 1)) 0 := HM.out.wk.c0
        rw [h1]
        unfold upV; rw [if_neg (by decide), HM.out.c0]
      have d0 : wr.cell? ⟨k.K, 0, none⟩ = some (.int .i64 s.nc) := by
        rw [HG5.out.kt.kr.cell (by decide)]
        exact congrArg some hc0
      clear hg hwk hc0 HR HG2 HOC
      go_wp2_with fail
      go_loopw [40] (fun kv wr => ∃ c : Nat, c ≤ s.nc ∧ kv = .int .i64 c ∧ Hid (∃ tag', KG s k w wr { s with c := c1, wn := nw + 1, wv := v', wl := s.wl.drop j, l := tickAll l1 s.nc c, tk := s.tk + c, tag := tag' })) (fun kv _ => s.nc - (intOf kv).toNat)
      case atStart => exact ⟨0, Nat.zero_le _, rfl, Lib.hid ⟨t3, by have := HG5.out; simpa [tickAll] using this⟩⟩
      case round =>
        clear d0
        obtain ⟨c, hc0, rfl, HR⟩ := hrel
        by_cases hc : c < s.nc
        · have i1 : (c : Int) < s.nc := by omega
          obtain ⟨tg', hg⟩ := HR.out
          have HG := Lib.hid hg
          have cn := hg.kt.cn
          have d4 : wr.cell? ⟨k.K, 4, none⟩ = some (.pointer (some ⟨k.R, 0, none⟩)) := by rw [hg.kt.kr.cell (by decide), hg.kt.c4]
          have HT := Lib.hid (tickG_is hg.kt.ru hc (by exact cn.2) (by have := HM.out.t0; show 0 ≤ s.tk + (c : Int); omega) (by have := HM.out.t1; have h4 : s.nc ≤ 4 := cn.2; show s.tk + (c : Int) < 1000000; omega) (fun i x hx => by
            have := HM.out.v.all s.nc c i x hx
            have h4 : s.nc ≤ 4 := cn.2
            have := HM.out.b1
            omega))
          have i4 : (s.nc : Int) ≤ 4 := by have h4 : s.nc ≤ 4 := cn.2; omega
          clear hg HR cn
          go_wp2_with (go_at_call 21; refine HT.out.mono ?_; rintro e3 w3 ⟨rfl, hr3, hu3⟩; have hg3 := HG.out.run hr3 hu3 (fun j e => .inl e); have HG3 := Lib.hid hg3; clear hr3 hu3 hg3)
          go_roundw
          case rel => exact ⟨c + 1, by omega, by go_num, by
            obtain ⟨t3, h3⟩ := HG3.out
            refine Lib.hid ⟨t3, ?_⟩
            have e : s.tk + ((c + 1 : Nat) : Int) = s.tk + (c : Int) + 1 := by push_cast; omega
            rw [e]
            exact h3⟩
          case measure => simp [intOf]; omega
        · obtain rfl : c = s.nc := by omega
          go_wp2_with fail
          (try simp only [Exit.inBlock, Exit.then]); first | (refine bodyPost_ret (results_none rfl _ _ _) rfl ?_) | (refine bodyPost_end (results_none rfl _ _ _) rfl ?_)
          obtain ⟨t5, h5⟩ := HR.out
          rw [HNN.out] at h5
          exact ⟨rfl, v', t5, h5⟩
end
end Go.Proofs.YtafflkemnniegaaGreatDoor
namespace Go.Proofs.YtafflkemnniegaaGreatDoor
open Go.RowKit
set_option linter.unusedVariables false
set_option linter.unusedSimpArgs false
section
variable {w0 w : World} {Out : World → Array Value → World → Prop} {k : KC} {s : KSt} {p b0 b1 b2 : Nat} {A : Array Value}
attribute [local go_sem ↓] ld_ans st_ans ld_call
set_option maxRecDepth 100000 in
set_option maxHeartbeats 1000000 in
theorem doQ_is {K : Nat} {q : Int} (ok : OutOk w0 Out) {num : Int} (hn : num = 30 ∨ num = 34) (hA : A.size = 7) (ha : A[0]? = some (.int .i64 num)) (hs : Spec w0 Out 51 #[.pointer (some ⟨K, 0, none⟩), .int .i64 q, .agg A]) :
    Spec w0 Out 18 #[.pointer (some ⟨K, 0, none⟩), .int .i64 q, .agg A] := by
  intro w h0
  have hb1 := Go.Joins.below_alloc1 w (.cells A 38)
  have hal : Below w.heap.size w ((w.alloc (.cells A 38)).alloc (.cells ansZ 35)) := hb1.trans ((Go.Joins.below_alloc1 _ _).mono hb1.size)
  have hr1 := (row_new w 38 A).alloc (.cells ansZ 35)
  have hr2 := row_new (w.alloc (.cells A 38)) 35 ansZ
  rw [size_alloc1] at hr2
  have d0 : ((w.alloc (.cells A 38)).alloc (.cells ansZ 35)).cell? ⟨w.heap.size, 0, none⟩ = some (.int .i64 num) := by rw [hr1.cell, ha]
  have l2 := ld_callR hr1 hA
  have HR : Hid (Row ((w.alloc (.cells A 38)).alloc (.cells #[.int .i64 0, .int .i64 0, .int .i64 0, .slice none 0 0, .slice none 0 0, .int .i64 0, .int .i64 0, .int .i64 0, .int .i64 0, .int .i64 0, .int .i64 0] 35)) (w.heap.size + 1) 35 ansZ) := Lib.hid hr2
  have HB := Lib.hid hal
  have HC := Lib.hid (hs _ (h0.trans (hal.mono h0.size)))
  have HOK := Lib.hid ok
  have H0 := Lib.hid h0
  have HLT := Lib.hid hr2.lt
  clear hal hr1 hr2 hA hs ok h0 ha hb1
  have hz : ansZ = #[.int .i64 0, .int .i64 0, .int .i64 0, .slice none 0 0, .slice none 0 0, .int .i64 0, .int .i64 0, .int .i64 0, .int .i64 0, .int .i64 0, .int .i64 0] := rfl
  rw [hz] at d0 l2 HB HC HLT
  rcases hn with rfl | rfl
  all_goals
    go_enter Tryz.func18, Tryz.ntmps18
    go_upto_region 1 with fail
    generalize (w.alloc (.cells A 38)).alloc (.cells #[.int .i64 0, .int .i64 0, .int .i64 0, .slice none 0 0, .slice none 0 0, .int .i64 0, .int .i64 0, .int .i64 0, .int .i64 0, .int .i64 0, .int .i64 0] 35) = w1 at *
    go_wp2_with (go_at_call 51; refine HC.out.mono ?_; rintro e2 w2 ⟨X, rfl, hX, hone, hu, ho⟩; have hr := ans_row H0.out HR.out (Nat.le_succ _) hu; have hst := ans_st hr hX hone; have HLD := Lib.hid (ans_ldV hr hX); have HP := Lib.hid (HOK.out.put (C := X) H0.out HB.out hu ho (Nat.le_succ _) HLT.out); have HX := Lib.hid (And.intro hX hone); clear hr hX hone hu ho; generalize w2.setRow (w.heap.size + 1) X = w3 at *)
    exact bodyPost_ret (v := .agg X) (by rw [results_cell1 rfl]; simp [asAddr, Result.andThen, HLD.out]) rfl ⟨X, rfl, HX.out.1, HX.out.2, HP.out.1, HP.out.2⟩
set_option maxRecDepth 100000 in
set_option maxHeartbeats 1000000 in
theorem proc_sleep {K : Nat} {q : Int} (q0 : 0 ≤ q) (q16 : q ≤ 16) (ok : OutOk w0 Out) (hA : A.size = 7) (ha : A[0]? = some (.int .i64 34)) {a : Int} (ha1 : A[1]? = some (.int .i64 a)) (hs : SpecE w0 Out 137 #[.pointer (some ⟨K, 0, none⟩), .int .i64 q, .int .i64 a]) :
    Spec w0 Out 51 #[.pointer (some ⟨K, 0, none⟩), .int .i64 q, .agg A] := by
  intro w h0
  have hb1 := Go.Joins.below_alloc1 w (.cells A 38)
  have hal : Below w.heap.size w ((w.alloc (.cells A 38)).alloc (.cells ansZ 35)) := hb1.trans ((Go.Joins.below_alloc1 _ _).mono hb1.size)
  have hr1 := (row_new w 38 A).alloc (.cells ansZ 35)
  have hr2 := row_new (w.alloc (.cells A 38)) 35 ansZ
  rw [size_alloc1] at hr2
  have d0 : ((w.alloc (.cells A 38)).alloc (.cells ansZ 35)).cell? ⟨w.heap.size, 0, none⟩ = some (.int .i64 34) := by rw [hr1.cell, ha]
  have d1 : ((w.alloc (.cells A 38)).alloc (.cells ansZ 35)).cell? ⟨w.heap.size, 1, none⟩ = some (.int .i64 a) := by rw [hr1.cell, ha1]
  have HR : Hid (Row ((w.alloc (.cells A 38)).alloc (.cells #[.int .i64 0, .int .i64 0, .int .i64 0, .slice none 0 0, .slice none 0 0, .int .i64 0, .int .i64 0, .int .i64 0, .int .i64 0, .int .i64 0, .int .i64 0] 35)) (w.heap.size + 1) 35 ansZ) := Lib.hid hr2
  have HB := Lib.hid hal
  have HC := Lib.hid (hs _ (h0.trans (hal.mono h0.size)))
  have HOK := Lib.hid ok
  have H0 := Lib.hid h0
  have HLT := Lib.hid hr2.lt
  have i17 : q < 17 := by omega
  clear hal hr1 hr2 hA hs ok h0 ha hb1
  have hz : ansZ = #[.int .i64 0, .int .i64 0, .int .i64 0, .slice none 0 0, .slice none 0 0, .int .i64 0, .int .i64 0, .int .i64 0, .int .i64 0, .int .i64 0, .int .i64 0] := rfl
  rw [hz] at d0 d1 HB HC HLT
  go_enter Tryz.func51, Tryz.ntmps51
  go_upto_region 1 with fail
  generalize (w.alloc (.cells A 38)).alloc (.cells #[.int .i64 0, .int .i64 0, .int .i64 0, .slice none 0 0, .slice none 0 0, .int .i64 0, .int .i64 0, .int .i64 0, .int .i64 0, .int .i64 0, .int .i64 0] 35) = w1 at *
  go_wp2_with (first | (go_at_call 137; refine HC.out.mono ?_; rintro e2 w3 ⟨er, rfl, hu3, ho3⟩; have HU3 := Lib.hid hu3; have HO3 := Lib.hid ho3; have HFL := Lib.hid (fail_is w3 er); clear hu3 ho3) | (go_at_call 14; refine HFL.out.mono ?_; rintro e4 w2 ⟨rfl, hb4⟩; obtain ⟨hX, hone⟩ := ansN er; have hu := HU3.out.trans (Upd.below hb4); have ho := HOK.out.keep _ _ _ _ HO3.out hb4; generalize ansV er 0 0 (.slice none 0 0) = X at *; have hr := ans_row H0.out HR.out (Nat.le_succ _) hu; have hst := ans_st hr hX hone; have HLD := Lib.hid (ans_ldV hr hX); have HP := Lib.hid (HOK.out.put (C := X) H0.out HB.out hu ho (Nat.le_succ _) HLT.out); have HX := Lib.hid (And.intro hX hone); clear hr hX hone hu ho; generalize w2.setRow (w.heap.size + 1) X = w3 at *))
  exact bodyPost_ret (v := .agg X) (by rw [results_cell1 rfl]; simp [asAddr, Result.andThen, HLD.out]) rfl ⟨X, rfl, HX.out.1, HX.out.2, HP.out.1, HP.out.2⟩
end
end Go.Proofs.YtafflkemnniegaaGreatDoor
