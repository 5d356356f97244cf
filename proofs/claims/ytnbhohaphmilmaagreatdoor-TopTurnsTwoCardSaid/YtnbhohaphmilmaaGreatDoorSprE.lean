/- The walks of package spread at any run: find, on, waits, better, best. The walks of package spread at any run: best, fill. The walks of package spread at any run: wait, low. append at a run's tasks; the walks of spread's enter, Add at any run. -/
import Derived.Test.YtnbhohaphmilmaaGreatDoorSprA
import Derived.Test.YtnbhohaphmilmaaGreatDoorTpA
import Derived.ArgAppend
namespace Go.Proofs.YtnbhohaphmilmaaGreatDoor
open Go.RowKit
set_option linter.unusedVariables false
set_option linter.unusedSimpArgs false
def ptrG (ad : Option Addr) (o : Option Nat) : Value := .pointer (o.map fun i => ⟨blk ad, i * 15, none⟩)
theorem ptrG_none (ad : Option Addr) : ptrG ad none = .pointer none := rfl
theorem ptrG_some (T i : Nat) : ptrG (some ⟨T, 0, none⟩) (some i) = .pointer (some ⟨T, i * 15, none⟩) := rfl
theorem find_at {l : List Tk} {p : Tk → Bool} {k : Nat} {x : Tk} (hx : l[k]? = some x) (hp : p x = true) (h : ∀ (j : Nat) (y : Tk), j < k → l[j]? = some y → p y = false) : l.findIdx? p = some k := by
  obtain ⟨hk, e⟩ := List.getElem?_eq_some_iff.1 hx
  rw [List.findIdx?_eq_some_iff_getElem]
  refine ⟨hk, by rw [e]; exact hp, fun j hj => ?_⟩
  have := h j l[j] hj (List.getElem?_eq_getElem (by omega))
  simp [this]
theorem find_no {l : List Tk} {p : Tk → Bool} (h : ∀ (j : Nat) (y : Tk), l[j]? = some y → p y = false) : l.findIdx? p = none := by
  rw [List.findIdx?_eq_none_iff]
  intro x hx
  obtain ⟨j, hj, e⟩ := List.getElem_of_mem hx
  exact h j x (by rw [List.getElem?_eq_getElem hj, e])
section
variable {w : World} {R cap : Nat} {ad : Option Addr} {cpus ticks pin : Int} {l : List Tk}
set_option maxRecDepth 100000 in
set_option maxHeartbeats 400000 in
theorem find_is (h : RunG w R ad cap cpus ticks pin l) (t : Int) : Calls Tryz.prog 79 #[.pointer (some ⟨R, 0, none⟩), .int .i64 t] w fun e w' => e = .returned (ptrG ad (idG l t)) ∧ w = w' := by
  have c3 := h.c3
  have HH := Lib.hid h
  have hmx := h.mx
  obtain ⟨n, hn⟩ : ∃ n, n = l.length := ⟨_, rfl⟩
  rw [← hn] at c3 hmx
  have HN := Lib.hid hn
  clear h hn
  go_enter Tryz.func79, Tryz.ntmps79
  go_wp2_with fail
  go_loop [11] (fun i => ∃ k : Nat, k ≤ n ∧ i = .int .i64 k ∧ Hid (∀ (j : Nat) (y : Tk), j < k → l[j]? = some y → (y.t == t) = false)) (fun i => n - (intOf i).toNat)
  case atStart => exact ⟨0, Nat.zero_le _, rfl, fun j y hj => absurd hj (Nat.not_lt_zero _)⟩
  case round =>
    obtain ⟨k, hk0, rfl, HM⟩ := hrel
    by_cases hk : k < n
    · have j1 : (k : Int) < n := by omega
      obtain ⟨T, C, rfl, hr⟩ := HH.out.rows (by have := HN.out; omega)
      obtain ⟨x, hx⟩ : ∃ x, l[k]? = some x := ⟨l[k]'(by have := HN.out; omega), List.getElem?_eq_getElem _⟩
      have t0 := (hr.cell (k * 15)).trans (hr.at hx).c0
      have HX := Lib.hid hx
      clear hr hx
      by_cases ht : x.t = t
      · have HT := Lib.hid ht
        rw [ht] at t0
        clear ht
        go_wp2_with fail
        go_ret
        exact ⟨by rw [idG, find_at HX.out (by simp [HT.out]) HM.out]; rfl, rfl⟩
      · have ht' : (x.t == t) = false := by simp [ht]
        have HT := Lib.hid ht'
        clear ht
        go_wp2_with fail
        go_round
        case rel => exact ⟨k + 1, by omega, by go_num, fun j y hj hy => by
          rcases Nat.lt_succ_iff_lt_or_eq.1 hj with q | rfl
          · exact HM.out j y q hy
          · rw [HX.out] at hy; injection hy with hy; subst hy; exact HT.out⟩
        case measure => simp [intOf]; omega
    · obtain rfl : k = n := by omega
      go_wp2_with fail
      go_ret
      exact ⟨by rw [idG, find_no (fun j y hy => HM.out j y (by have := (List.getElem?_eq_some_iff.1 hy).1; have := HN.out; omega) hy)]; rfl, rfl⟩
set_option maxRecDepth 100000 in
set_option maxHeartbeats 400000 in
theorem onG_is (h : RunG w R ad cap cpus ticks pin l) (t : Int) : Calls Tryz.prog 92 #[.pointer (some ⟨R, 0, none⟩), .int .i64 t] w fun e w' => e = .returned (ptrG ad (onG l t)) ∧ w = w' := by
  have c3 := h.c3
  have HH := Lib.hid h
  have hmx := h.mx
  obtain ⟨n, hn⟩ : ∃ n, n = l.length := ⟨_, rfl⟩
  rw [← hn] at c3 hmx
  have HN := Lib.hid hn
  clear h hn
  go_enter Tryz.func92, Tryz.ntmps92
  go_wp2_with fail
  go_loop [11] (fun i => ∃ k : Nat, k ≤ n ∧ i = .int .i64 k ∧ Hid (∀ (j : Nat) (y : Tk), j < k → l[j]? = some y → (y.cpu == t) = false)) (fun i => n - (intOf i).toNat)
  case atStart => exact ⟨0, Nat.zero_le _, rfl, fun j y hj => absurd hj (Nat.not_lt_zero _)⟩
  case round =>
    obtain ⟨k, hk0, rfl, HM⟩ := hrel
    by_cases hk : k < n
    · have j1 : (k : Int) < n := by omega
      obtain ⟨T, C, rfl, hr⟩ := HH.out.rows (by have := HN.out; omega)
      obtain ⟨x, hx⟩ : ∃ x, l[k]? = some x := ⟨l[k]'(by have := HN.out; omega), List.getElem?_eq_getElem _⟩
      have t0 := (hr.cell (k * 15 + 14)).trans (hr.at hx).c14
      have HX := Lib.hid hx
      clear hr hx
      by_cases ht : x.cpu = t
      · have HT := Lib.hid ht
        rw [ht] at t0
        clear ht
        go_wp2_with fail
        go_ret
        exact ⟨by rw [onG, find_at HX.out (by simp [HT.out]) HM.out]; rfl, rfl⟩
      · have ht' : (x.cpu == t) = false := by simp [ht]
        have HT := Lib.hid ht'
        clear ht
        go_wp2_with fail
        go_round
        case rel => exact ⟨k + 1, by omega, by go_num, fun j y hj hy => by
          rcases Nat.lt_succ_iff_lt_or_eq.1 hj with q | rfl
          · exact HM.out j y q hy
          · rw [HX.out] at hy; injection hy with hy; subst hy; exact HT.out⟩
        case measure => simp [intOf]; omega
    · obtain rfl : k = n := by omega
      go_wp2_with fail
      go_ret
      exact ⟨by rw [onG, find_no (fun j y hy => HM.out j y (by have := (List.getElem?_eq_some_iff.1 hy).1; have := HN.out; omega) hy)]; rfl, rfl⟩
variable {T : Nat} {C : Array Value} {i j : Nat} {x y : Tk}
set_option maxRecDepth 100000 in
set_option maxHeartbeats 400000 in
theorem as_is (h : TkR w R T cap pin l C) (hx : l[i]? = some x) : Calls Tryz.prog 328 #[.pointer (some ⟨T, i * 15, none⟩)] w fun e w' => e = .returned (.tuple #[.int .i64 1, .int .i64 10]) ∧ Below w.heap.size w w' := by
  have t1 := (h.cell (i * 15 + 1)).trans (h.at hx).c1
  have t2 := (h.cell (i * 15 + 2)).trans (h.at hx).c2
  have t3 := (h.cell (i * 15 + 3)).trans (h.at hx).c3
  clear h hx
  go_enter Tryz.func328, Tryz.ntmps328
  go_wp2_with fail
  go_region
  go_wp2_with fail
  go_ret2
  exact ⟨rfl, (Below.refl _ _).drew⟩
set_option maxRecDepth 100000 in
set_option maxHeartbeats 400000 in
theorem waits_any (h : TkR w R T cap pin l C) (hx : l[i]? = some x) : Calls Tryz.prog 267 #[.pointer (some ⟨T, i * 15, none⟩)] w fun e w' => e = .returned (.bool (twait x)) ∧ w = w' := by
  have t12 := (h.cell (i * 15 + 12)).trans (h.at hx).c12
  have t13 := (h.cell (i * 15 + 13)).trans (h.at hx).c13
  have t14 := (h.cell (i * 15 + 14)).trans (h.at hx).c14
  obtain ⟨q, hq⟩ : ∃ q, q = twait x := ⟨_, rfl⟩
  unfold twait at hq
  rw [show twait x = (x.rd && decide (x.cpu < 0)) from rfl, ← hq]
  generalize x.rd = r at *
  generalize x.cpu = u at *
  clear h hx
  by_cases hu : u < 0
  · cases r
    all_goals
      simp only [hu, decide_true, Bool.and_true, Bool.false_and] at hq
      subst hq
      go_enter Tryz.func267, Tryz.ntmps267
      go_wp2_with fail
      go_ret
      exact ⟨rfl, rfl⟩
  · cases r
    all_goals
      simp only [hu, decide_false, Bool.and_false, Bool.false_and] at hq
      subst hq
      go_enter Tryz.func267, Tryz.ntmps267
      go_wp2_with fail
      go_ret
      exact ⟨rfl, rfl⟩
set_option maxRecDepth 100000 in
set_option maxHeartbeats 400000 in
theorem better_is (h : TkR w R T cap pin l C) (hx : l[i]? = some x) (hy : l[j]? = some y) : Calls Tryz.prog 268 #[.pointer (some ⟨T, i * 15, none⟩), .pointer (some ⟨T, j * 15, none⟩)] w fun e w' => e = .returned (.bool (tbet x y)) ∧ Below w.heap.size w w' := by
  have HX := Lib.hid hx
  have HY := Lib.hid hy
  have HH := Lib.hid h
  have HA := Lib.hid (as_is h hx)
  have hb := show tbet x y = if x.v = y.v then decide (x.t < y.t) else decide (x.v < y.v) from rfl
  obtain ⟨q, hq⟩ : ∃ q, q = tbet x y := ⟨_, rfl⟩
  rw [← hq] at hb ⊢
  clear h hx hy hq
  go_enter Tryz.func268, Tryz.ntmps268
  go_upto_region 2 with (go_at_call 328; refine HA.out.mono ?_; rintro e1 w1 ⟨rfl, hb1⟩)
  have HB := Lib.hid (as_is (HH.out.keep hb1) HY.out)
  have HB1 := Lib.hid hb1
  clear hb1 HA
  go_upto_region 3 with (go_at_call 328; refine HB.out.mono ?_; rintro e2 w2 ⟨rfl, hb2⟩)
  have HB2 := Lib.hid (HB1.out.trans (hb2.mono HB1.out.size))
  have hr := HH.out.keep HB2.out
  have a0 := (hr.cell (i * 15)).trans (hr.at HX.out).c0
  have a9 := (hr.cell (i * 15 + 9)).trans (hr.at HX.out).c9
  have b0 := (hr.cell (j * 15)).trans (hr.at HY.out).c0
  have b9 := (hr.cell (j * 15 + 9)).trans (hr.at HY.out).c9
  clear hr hb2 HB HB1 HH HX HY
  generalize x.v = xv at *
  generalize y.v = yv at *
  generalize x.t = xt at *
  generalize y.t = yt at *
  by_cases hv : xv = yv
  · rw [if_pos hv] at hb
    subst hv
    subst hb
    go_wp2_with fail
    go_region
    go_wp2_with fail
    go_region
    go_wp2_with fail
    go_ret
    exact ⟨rfl, HB2.out.drew.drew⟩
  · rw [if_neg hv] at hb
    subst hb
    have hv' : (xv != yv) = true := by simp [hv]
    clear hv
    go_wp2_with fail
    go_region
    go_wp2_with fail
    go_region
    go_wp2_with fail
    go_ret
    exact ⟨rfl, HB2.out.drew.drew⟩
end
end Go.Proofs.YtnbhohaphmilmaaGreatDoor
namespace Go.Proofs.YtnbhohaphmilmaaGreatDoor
open Go.RowKit
set_option linter.unusedVariables false
set_option linter.unusedSimpArgs false
def pinOk (pin : Int) (c : Nat) : Prop := bits .and .i64 (pin / 2 ^ c) 1 = 1
section
variable {w : World} {R cap : Nat} {ad : Option Addr} {cpus ticks pin : Int} {l : List Tk}
set_option maxRecDepth 100000 in
set_option maxHeartbeats 1000000 in
theorem bestG_is (h : RunG w R ad cap cpus ticks pin l) {c : Nat} (hp : pinOk pin c) (hc : c < 63) : Calls Tryz.prog 193 #[.pointer (some ⟨R, 0, none⟩), .int .i64 c] w fun e w' => e = .returned (ptrG ad (bestG l l.length)) ∧ Below w.heap.size w w' := by
  have c3 := h.c3
  have HH := Lib.hid h
  have hmx := h.mx
  obtain ⟨n, hn⟩ : ∃ n, n = l.length := ⟨_, rfl⟩
  rw [← hn] at c3 hmx ⊢
  have HN := Lib.hid hn
  have HP := Lib.hid hp
  clear h hn hp
  go_enter Tryz.func193, Tryz.ntmps193
  go_wp2_with fail
  go_loopw [5, 13] (fun bv kv wr => ∃ k : Nat, k ≤ n ∧ kv = .int .i64 k ∧ bv = ptrG ad (bestG l k) ∧ Hid (Below w.heap.size w wr)) (fun _ kv _ => n - (intOf kv).toNat)
  case atStart => exact ⟨0, Nat.zero_le _, rfl, rfl, Lib.hid (Below.refl _ _)⟩
  case round =>
    obtain ⟨k, hk0, rfl, rfl, HB⟩ := hrel
    by_cases hk : k < n
    · have j1 : (k : Int) < n := by omega
      have HQ := Lib.hid (HH.out.keep HB.out)
      obtain ⟨T, C, rfl, hr⟩ := HQ.out.rows (by have := HN.out; omega)
      obtain ⟨x, hx⟩ : ∃ x, l[k]? = some x := ⟨l[k]'(by have := HN.out; omega), List.getElem?_eq_getElem _⟩
      have d3 : wr.cell? ⟨R, 3, none⟩ = some (.slice (some ⟨T, 0, none⟩) n cap) := by rw [HN.out]; exact HQ.out.c3
      have t11 := (hr.cell (k * 15 + 11)).trans (hr.at hx).c11
      have hpin : bits .and .i64 (pin / 2 ^ c) 1 = 1 := HP.out
      have HWA := Lib.hid (waits_any hr hx)
      have HR := Lib.hid hr
      have HX := Lib.hid hx
      have hb := bestG_next hx
      clear hr hx
      cases ht : twait x
      · rw [ht] at HWA
        rw [bestStep_no ht] at hb
        have HBB := Lib.hid hb
        clear hb
        generalize bestG l k = p at *
        go_wp2_with (go_at_call 267; refine HWA.out.mono ?_; rintro e1 w1 ⟨rfl, rfl⟩)
        go_roundw
        case rel => exact ⟨k + 1, by omega, by go_num, by rw [HBB.out], HB⟩
        case measure => simp [intOf]; omega
      · rw [ht] at HWA
        rw [bestStep_yes ht] at hb
        cases hbk : bestG l k with
        | none =>
          rw [hbk] at hb
          have HBB := Lib.hid hb
          clear hb hbk
          rw [ptrG_none]
          go_wp2_with (go_at_call 267; refine HWA.out.mono ?_; rintro e1 w1 ⟨rfl, rfl⟩)
          go_roundw
          case rel => exact ⟨k + 1, by omega, by go_num, by rw [HBB.out]; rfl, HB⟩
          case measure => simp [intOf]; omega
        | some b =>
          obtain ⟨hbk1, hbk2⟩ := bestG_lt l k b hbk
          have hy : l[b]? = some l[b] := List.getElem?_eq_getElem hbk2
          rw [hbk, bestOf_some hy] at hb
          have HBE := Lib.hid (better_is HR.out HX.out hy)
          have HBB := Lib.hid hb
          clear hb hbk hy
          rw [ptrG_some]
          generalize l[b] = y at *
          cases htb : tbet x y
          all_goals
            rw [htb] at HBE HBB
            go_wp2_with (first | (go_at_call 267; refine HWA.out.mono ?_; rintro e1 w1 ⟨rfl, rfl⟩) | (go_at_call 268; refine HBE.out.mono ?_; rintro e2 w2 ⟨rfl, hb2⟩; have HB2 := Lib.hid (HB.out.trans (hb2.mono HB.out.size)); clear hb2))
            go_roundw
            case rel => exact ⟨k + 1, by omega, by go_num, by rw [HBB.out]; rfl, HB2⟩
            case measure => simp [intOf]; omega
    · obtain rfl : k = n := by omega
      go_wp2_with fail
      go_ret
      exact ⟨rfl, HB.out⟩
theorem fill1_busy {c : Int} {i : Nat} (h : onG l c = some i) : fill1 l c = l := by
  unfold fill1; rw [h]
theorem fill1_none {c : Int} (h : onG l c = none) (h2 : bestG l l.length = none) : fill1 l c = l := by
  unfold fill1; rw [h, h2]
theorem fill1_some {c : Int} {b : Nat} {x : Tk} (h : onG l c = none) (h2 : bestG l l.length = some b) (hx : l[b]? = some x) : fill1 l c = l.set b { x with cpu := c } := by
  unfold fill1; rw [h, h2]
  show (match l[b]? with | none => l | some x => l.set b { x with cpu := c }) = _
  rw [hx]
set_option maxRecDepth 100000 in
set_option maxHeartbeats 1000000 in
theorem fillG_is {m : Nat} (h : RunG w R ad cap m ticks pin l) (hp : ∀ c, c < m → pinOk pin c) (hm : m ≤ 62) : Calls Tryz.prog 111 #[.pointer (some ⟨R, 0, none⟩)] w fun e w' => e = .returned (.tuple #[]) ∧ RunG w' R ad cap m ticks pin (fillG l m) ∧ Upd (rS R ad) w w' := by
  have c0 := h.c0
  have HH := Lib.hid h
  have HP := Lib.hid hp
  clear h hp
  go_enter Tryz.func111, Tryz.ntmps111
  go_wp2_with fail
  go_loopw [8] (fun kv wr => ∃ k : Nat, k ≤ m ∧ kv = .int .i64 k ∧ Hid (RunG wr R ad cap m ticks pin (fillG l k)) ∧ Hid (Upd (rS R ad) w wr)) (fun kv _ => m - (intOf kv).toNat)
  case atStart => exact ⟨0, Nat.zero_le _, rfl, HH, Lib.hid (Upd.refl _ _)⟩
  case round =>
    obtain ⟨k, hk0, rfl, HR, HU⟩ := hrel
    by_cases hk : k < m
    · have j1 : (k : Int) < m := by omega
      have HON := Lib.hid (onG_is HR.out k)
      have HBE := Lib.hid (bestG_is HR.out (HP.out k hk) (by omega))
      obtain ⟨L, hL⟩ : ∃ L, L = fillG l k := ⟨_, rfl⟩
      have HF : Hid (fillG l (k + 1) = fill1 L k) := Lib.hid (by rw [hL]; rfl)
      rw [← hL] at HR HON HBE
      clear hL
      cases hon : onG L k with
      | some i =>
        rw [hon] at HON
        rw [fill1_busy hon] at HF
        clear hon
        have hptr : ∃ a, ptrG ad (some i) = .pointer (some a) := ⟨_, rfl⟩
        obtain ⟨a, ha⟩ := hptr
        rw [ha] at HON
        clear ha
        go_wp2_with (go_at_call 92; refine HON.out.mono ?_; rintro e1 w1 ⟨rfl, rfl⟩)
        go_roundw
        case rel => exact ⟨k + 1, by omega, by go_num, by rw [HF.out]; exact HR, HU⟩
        case measure => simp [intOf]; omega
      | none =>
        rw [hon, ptrG_none] at HON
        cases hbe : bestG L L.length with
        | none =>
          rw [hbe, ptrG_none] at HBE
          rw [fill1_none hon hbe] at HF
          clear hon hbe
          go_wp2_with (first | (go_at_call 92; refine HON.out.mono ?_; rintro e1 w1 ⟨rfl, rfl⟩) | (go_at_call 193; refine HBE.out.mono ?_; rintro e2 w2 ⟨rfl, hb2⟩; have HR2 := Lib.hid (HR.out.keep hb2); have HU2 := Lib.hid (HU.out.trans (Upd.below hb2)); clear hb2))
          go_roundw
          case rel => exact ⟨k + 1, by omega, by go_num, by rw [HF.out]; exact HR2, HU2⟩
          case measure => simp [intOf]; omega
        | some b =>
          rw [hbe] at HBE
          obtain ⟨-, hb⟩ := bestG_lt L _ b hbe
          have hx : L[b]? = some L[b] := List.getElem?_eq_getElem hb
          rw [fill1_some hon hbe hx] at HF
          obtain ⟨T, C, rfl, hr⟩ := HR.out.rows (by omega)
          rw [ptrG_some] at HBE
          have HX := Lib.hid hx
          clear hon hbe hx
          generalize L[b] = x at *
          have HT : Hid (∀ w2, Below wr.heap.size wr w2 → (∃ v, w2.cell? ⟨T, b * 15 + 14, none⟩ = some v) ∧ w2.frozen? ⟨T, b * 15 + 14, none⟩ = false) := Lib.hid fun w2 h2 => ⟨⟨_, ((hr.row.keep h2).cell _).trans (hr.at HX.out).c14⟩, (hr.row.keep h2).fz _⟩
          clear hr hb
          go_wp2_with (first | (go_at_call 92; refine HON.out.mono ?_; rintro e1 w1 ⟨rfl, rfl⟩) | (go_at_call 193; refine HBE.out.mono ?_; rintro e2 w2 ⟨rfl, hb2⟩; obtain ⟨⟨vt, t14⟩, f14⟩ := HT.out w2 hb2; have HR2 := Lib.hid (HR.out.keep hb2); have HU2 := Lib.hid (HU.out.trans (Upd.below hb2)); clear hb2))
          have HR3 := Lib.hid (HR2.out.setCpu HX.out k)
          have HU3 := Lib.hid (HU2.out.trans (Upd.set w2 (b := T) (i := b * 15 + 14) (.int .i64 k) (.inr ⟨_, rfl, rfl⟩)))
          go_roundw
          case rel => exact ⟨k + 1, by omega, by go_num, by rw [HF.out]; exact HR3, HU3⟩
          case measure => simp [intOf]; omega
    · obtain rfl : k = m := by omega
      go_wp2_with fail
      (try simp only [Exit.inBlock, Exit.then]); first | (refine bodyPost_ret (results_none rfl _ _ _) rfl ?_) | (refine bodyPost_end (results_none rfl _ _ _) rfl ?_)
      exact ⟨rfl, HR.out, HU.out⟩
end
end Go.Proofs.YtnbhohaphmilmaaGreatDoor
namespace Go.Proofs.YtnbhohaphmilmaaGreatDoor
open Go.RowKit
set_option linter.unusedVariables false
set_option linter.unusedSimpArgs false
section
variable {w : World} {R cap : Nat} {ad : Option Addr} {cpus ticks pin : Int} {l : List Tk} {T i : Nat} {C : Array Value} {x : Tk}
set_option maxRecDepth 100000 in
set_option maxHeartbeats 400000 in
theorem waitG_is (h : RunG w R (some ⟨T, 0, none⟩) cap cpus ticks pin l) (hx : l[i]? = some x) : Calls Tryz.prog 110 #[.pointer (some ⟨R, 0, none⟩), .pointer (some ⟨T, i * 15, none⟩)] w fun e w' => e = .returned (.tuple #[]) ∧ RunG w' R (some ⟨T, 0, none⟩) cap cpus ticks pin (l.set i { x with cpu := -1 }) ∧ Upd (rS R (some ⟨T, 0, none⟩)) w w' := by
  have hxl := (List.getElem?_eq_some_iff.1 hx).1
  obtain ⟨T', C, e, hr⟩ := h.rows (by omega)
  injection e with e; injection e with e; subst e
  obtain ⟨s, c2⟩ := h.c2
  have ne1 := hr.ne
  have ne2 : R ≠ T := fun e => ne1 e.symm
  obtain ⟨s10, h10⟩ := (hr.at hx).c10
  have t10 := (hr.cell (i * 15 + 10)).trans h10
  have t14 := (hr.cell (i * 15 + 14)).trans (hr.at hx).c14
  have f2 := h.fz 2
  have f10 := hr.row.fz (i * 15 + 10)
  have f14 := hr.row.fz (i * 15 + 14)
  have hx2 : (l.set i { x with cpu := -1 })[i]? = some { x with cpu := -1 } := by rw [List.getElem?_set]; simp [hxl]
  have HH := Lib.hid (((h.setCpu hx (-1)).setStamp (wrap64 (s + 1))).setSince hx2 (wrap64 (s + 1)))
  have HU : Hid (Upd (rS R (some ⟨T, 0, none⟩)) w (((w.setCell ⟨T, i * 15 + 14, none⟩ (.int .i64 (-1))).setCell ⟨R, 2, none⟩ (.int .i64 (wrap64 (s + 1)))).setCell ⟨T, i * 15 + 10, none⟩ (.int .i64 (wrap64 (s + 1))))) := Lib.hid (((Upd.set w _ (.inr ⟨_, rfl, rfl⟩)).trans (Upd.set _ _ (.inl rfl))).trans (Upd.set _ _ (.inr ⟨_, rfl, rfl⟩)))
  clear h hr h10 hx2 hx hxl
  go_enter Tryz.func110, Tryz.ntmps110
  go_wp2_with fail
  (try simp only [Exit.inBlock, Exit.then]); first | (refine bodyPost_ret (results_none rfl _ _ _) rfl ?_) | (refine bodyPost_end (results_none rfl _ _ _) rfl ?_)
  exact ⟨rfl, HH.out, HU.out⟩
theorem TkIn.one {X : Array Value} (h : TkIn X 0 pin x) (hs : X.size = 15) : X.all (·.oneCell') = true := by
  rw [Array.all_eq_true]
  intro j hj
  have e : ∀ v, X[j]? = some v → X[j] = v := fun v hv => (Array.getElem?_eq_some_iff.1 hv).2
  obtain ⟨s, h10⟩ := h.c10
  have : j = 0 ∨ j = 1 ∨ j = 2 ∨ j = 3 ∨ j = 4 ∨ j = 5 ∨ j = 6 ∨ j = 7 ∨ j = 8 ∨ j = 9 ∨ j = 10 ∨ j = 11 ∨ j = 12 ∨ j = 13 ∨ j = 14 := by omega
  rcases this with rfl | rfl | rfl | rfl | rfl | rfl | rfl | rfl | rfl | rfl | rfl | rfl | rfl | rfl | rfl
  · rw [e _ h.c0]; rfl
  · rw [e _ h.c1]; rfl
  · rw [e _ h.c2]; rfl
  · rw [e _ h.c3]; rfl
  · rw [e _ h.c4]; rfl
  · rw [e _ h.c5]; rfl
  · rw [e _ h.c6]; rfl
  · rw [e _ h.c7]; rfl
  · rw [e _ h.c8]; rfl
  · rw [e _ h.c9]; rfl
  · rw [e _ h10]; rfl
  · rw [e _ h.c11]; rfl
  · rw [e _ h.c12]; rfl
  · rw [e _ h.c13]; rfl
  · rw [e _ h.c14]; rfl
theorem ld_task (v : Value) : Instr.loadAt 216 v = ldR 216 v := rfl
theorem st_task (p v : Value) : Instr.storeAt 216 p v = stR 216 p v := rfl
theorem TkR.load (h : TkR w R T cap pin l C) (hx : l[i]? = some x) : ∃ X, (ldR 216 (.pointer (some ⟨T, i * 15, none⟩))).run Tryz.prog w = .ok (.agg X) w ∧ TkIn X 0 pin x ∧ X.size = 15 := by
  have hl := (h.at hx).lt
  refine ⟨C.extract (i * 15) (i * 15 + 15), h.row.ld (o := i * 15) (n := 15) (by omega) Tryz.underlying216 rfl (by kernel_rfl), ?_, by simp; omega⟩
  refine (h.at hx).of fun j hj => ?_
  rw [Array.getElem?_extract, if_pos (by omega)]
  simp
theorem lowG_next {k : Nat} (hx : l[k]? = some x) : lowG l (k + 1) = if x.rd then (match lowG l k with
      | none => some x.v
      | some n => if x.v < n then some x.v else some n) else lowG l k := by
  rw [lowG, hx]
  rfl
def lowN (o : Option Int) : Value := .int .i64 (o.getD 0)
def lowB (o : Option Int) : Value := .bool o.isSome
attribute [local go_sem ↓] ld_task st_task
set_option maxRecDepth 100000 in
set_option maxHeartbeats 1000000 in
theorem lowG_is (h : RunG w R ad cap cpus ticks pin l) : Calls Tryz.prog 146 #[.pointer (some ⟨R, 0, none⟩)] w fun e w' => e = .returned (.tuple #[lowN (lowG l l.length), lowB (lowG l l.length)]) ∧ Below w.heap.size w w' := by
  have c3 := h.c3
  have HH := Lib.hid h
  have hmx := h.mx
  obtain ⟨n, hn⟩ : ∃ n, n = l.length := ⟨_, rfl⟩
  rw [← hn] at c3 hmx ⊢
  have HN := Lib.hid hn
  have HST := Lib.hid (fun (w : World) (X : Array Value) (h1 : X.size = 15) (h2 : X.all (·.oneCell') = true) => st0_new w (T := 216) (c := #[.int .i64 0, .int .i64 0, .int .i64 0, .int .i64 0, .int .i64 0, .int .i64 0, .int .i64 0, .int .i64 0, .int .i64 0, .int .i64 0, .int .i64 0, .int .i64 0, .bool false, .bool false, .int .i64 0]) (cs := X) h1 (by rw [h1]; kernel_rfl) h2)
  clear h hn
  go_enter Tryz.func146, Tryz.ntmps146
  go_wp2_with fail
  go_loopw [4, 5, 13] (fun nv bv kv wr => ∃ k : Nat, k ≤ n ∧ kv = .int .i64 k ∧ nv = lowN (lowG l k) ∧ bv = lowB (lowG l k) ∧ Hid (Below w.heap.size w wr)) (fun _ _ kv _ => n - (intOf kv).toNat)
  case atStart => exact ⟨0, Nat.zero_le _, rfl, rfl, rfl, Lib.hid (Below.refl _ _)⟩
  case round =>
    obtain ⟨k, hk0, rfl, rfl, rfl, HB⟩ := hrel
    by_cases hk : k < n
    · have j1 : (k : Int) < n := by omega
      have HQ := Lib.hid (HH.out.keep HB.out)
      obtain ⟨T, C, rfl, hr⟩ := HQ.out.rows (by have := HN.out; omega)
      obtain ⟨x, hx⟩ : ∃ x, l[k]? = some x := ⟨l[k]'(by have := HN.out; omega), List.getElem?_eq_getElem _⟩
      obtain ⟨X, hld, hX, hsz⟩ := hr.load hx
      have hst := HST.out wr X hsz (hX.one hsz)
      have hb := lowG_next hx
      have hrn := row_new wr 216 X
      have x1 := (hrn.cell 1).trans hX.c1
      have x9 := (hrn.cell 9).trans hX.c9
      have x12 := (hrn.cell 12).trans hX.c12
      have HB1 := Lib.hid (HB.out.trans ((Go.Joins.below_alloc1 wr (.cells X 216)).mono HB.out.size))
      clear hr hx hX hsz hrn
      cases hrd : x.rd
      · rw [hrd] at hb x12
        rw [if_neg (by decide)] at hb
        have HBB := Lib.hid hb
        clear hb
        generalize lowG l k = p at *
        go_wp2_with fail
        go_roundw
        case rel => exact ⟨k + 1, by omega, by go_num, by rw [HBB.out], by rw [HBB.out], HB1⟩
        case measure => simp [intOf]; omega
      · rw [hrd] at hb x12
        rw [if_pos rfl] at hb
        cases hlk : lowG l k with
        | none =>
          rw [hlk] at hb
          have HBB := Lib.hid hb
          clear hb hlk
          rw [show lowB none = .bool false from rfl, show lowN none = .int .i64 0 from rfl]
          go_wp2_with fail
          go_roundw
          case rel => exact ⟨k + 1, by omega, by go_num, by rw [HBB.out]; rfl, by rw [HBB.out]; rfl, HB1⟩
          case measure => simp [intOf]; omega
        | some m =>
          rw [hlk] at hb
          dsimp only at hb
          rw [show lowB (some m) = .bool true from rfl, show lowN (some m) = .int .i64 m from rfl]
          generalize x.v = xv at *
          by_cases hv : xv < m
          · rw [if_pos hv] at hb
            have HBB := Lib.hid hb
            clear hb hlk
            go_wp2_with fail
            go_roundw
            case rel => exact ⟨k + 1, by omega, by go_num, by rw [HBB.out]; rfl, by rw [HBB.out]; rfl, HB1⟩
            case measure => simp [intOf]; omega
          · rw [if_neg hv] at hb
            have HBB := Lib.hid hb
            clear hb hlk
            go_wp2_with fail
            go_roundw
            case rel => exact ⟨k + 1, by omega, by go_num, by rw [HBB.out]; rfl, by rw [HBB.out]; rfl, HB1⟩
            case measure => simp [intOf]; omega
    · obtain rfl : k = n := by omega
      go_wp2_with fail
      go_ret2
      exact ⟨rfl, HB.out⟩
end
end Go.Proofs.YtnbhohaphmilmaaGreatDoor
namespace Go.Proofs.YtnbhohaphmilmaaGreatDoor
open Go.RowKit
set_option linter.unusedVariables false
set_option linter.unusedSimpArgs false
def appT := Builtin.append_ #[207, 207] 207
theorem infoT : (Tryz.prog.info? 216).map (fun i => (i.zero, i.size, i.bytes)) = some (some (.agg #[.int .i64 0, .int .i64 0, .int .i64 0, .int .i64 0, .int .i64 0, .int .i64 0, .int .i64 0, .int .i64 0, .int .i64 0, .int .i64 0, .int .i64 0, .int .i64 0, .bool false, .bool false, .int .i64 0]), 15, 112) := by kernel_rfl
def bsT (ps : Array (Nat × Value)) : Sem Value := Instr.buildSlice 207 1 ps
theorem bs_task (ps : Array (Nat × Value)) : Instr.buildSlice 207 1 ps = bsT ps := rfl
section
variable {w w' : World} {R cap : Nat} {ad : Option Addr} {cpus ticks pin : Int} {l : List Tk} {T i : Nat} {C X : Array Value} {x : Tk}
theorem tkr_own {base n : Nat} {v : Value} {xs : List Value} (ho : w'.ownsRow base 216 15 v n xs) (hn : 0 < n) (hR : R < base) (hl : l.length = n) (hm : n ≤ 1000) (ht : TksIn xs.toArray pin l) : ∃ T c C, v = .slice (some ⟨T, 0, none⟩) n c ∧ base ≤ T ∧ TkR w' R T c pin l C := by
  rcases ho.2 with ⟨he, h0⟩ | ⟨g, c, cur, he, hb, hg, hnc, hcm, hcs, htk⟩
  · omega
  refine ⟨g, c, cur, he, hb, by omega, hg, by omega, hcm, by omega, by omega, fun i x hx => (ht i x hx).of fun j hj => ?_⟩
  have hi := (List.getElem?_eq_some_iff.1 hx).1
  rw [← htk]
  simp only [List.getElem?_toArray]
  rw [List.getElem?_take, if_pos (by omega)]
  simp
theorem tks_push (hC : TksIn C pin l) (hc : l.length * 15 ≤ C.size) (hX : TkIn X 0 pin x) (hs : X.size = 15) : TksIn (C.toList.take (l.length * 15) ++ X.toList).toArray pin (l ++ [x]) := by
  have hlen : (C.toList.take (l.length * 15)).length = l.length * 15 := by rw [List.length_take]; simp; omega
  intro i y hy
  by_cases hi : i < l.length
  · rw [List.getElem?_append_left hi] at hy
    refine (hC i y hy).of fun j hj => ?_
    rw [List.getElem?_toArray, List.getElem?_append_left (by omega), List.getElem?_take, if_pos (by omega)]
    simp
  · rw [List.getElem?_append_right (by omega)] at hy
    have h0 : i = l.length := by
      have := (List.getElem?_eq_some_iff.1 hy).1
      simp at this
      omega
    subst h0
    simp at hy
    subst hy
    refine hX.of fun j hj => ?_
    rw [List.getElem?_toArray, List.getElem?_append_right (by omega), hlen]
    simp
theorem app_any (h : RunG w R ad cap cpus ticks pin l) (hX : TkIn X 0 pin x) (hs : X.size = 15) (hm : l.length < 1000) : ∃ T c w', (appT #[.slice ad l.length cap, .slice (some ⟨w.heap.size, 0, none⟩) 1 1]).run Tryz.prog (w.alloc (.cells X 216)) = .ok (.slice (some ⟨T, 0, none⟩) (l.length + 1) c) w' ∧ RunG (w'.setCell ⟨R, 3, none⟩ (.slice (some ⟨T, 0, none⟩) (l.length + 1) c)) R (some ⟨T, 0, none⟩) c cpus ticks pin (l ++ [x]) ∧ (∃ v, w'.cell? ⟨R, 3, none⟩ = some v) ∧ w'.frozen? ⟨R, 3, none⟩ = false ∧ (ad = some ⟨T, 0, none⟩ ∨ w.heap.size ≤ T) ∧ Upd (rS R ad) w w' := by
  obtain ⟨i0, hi, hz0, hz1, hz2⟩ := info_parts infoT
  have hb1 := Go.Joins.below_alloc1 w (.cells X 216)
  have hr1 := row_new w 216 X
  have hone : ∀ u ∈ X.toList, u.oneCell' = true := by
    have := hX.one hs
    rw [Array.all_eq_true] at this
    intro u hu
    obtain ⟨j, hj, rfl⟩ := List.getElem_of_mem hu
    simpa using this j (by simpa using hj)
  have hnew : ∀ j u, X.toList[j]? = some u → (w.alloc (.cells X 216)).cell? ((⟨w.heap.size, 0, none⟩ : Addr).add j) = some u := fun j u hu => by
    rw [Addr.add_lit, hr1.cell]
    simpa using hu
  have hk := h.keep hb1
  have hRl := h.lt
  have hsz : w.heap.size ≤ (w.alloc (.cells X 216)).heap.size := hb1.size
  rcases h.row with ⟨rfl, rfl, rfl⟩ | ⟨T, C, rfl, ht⟩
  · obtain ⟨v', w', hr, ho, hg, -⟩ := run_append_fresh (P := Tryz.prog) (w.alloc (.cells X 216)) w.heap.size 207 207 216 i0 _ 15 112 Tryz.underlying207 hi hz0 hz1 hz2 rfl (by decide) (.slice none 0 0) 0 [] (World.ownsRow_nil _ _ _ _) ⟨w.heap.size, 0, none⟩ 1 1 X.toList (by simpa using hs) hnew hone (by decide) (by decide) (by simp)
    have hbg : Below w.heap.size w w' := hb1.trans ((Below.refl _ _).grown hg (by simp) (fun k hk => by simp [Value.ownBlock] at hk))
    obtain ⟨T, c, C, rfl, hT, htr⟩ := tkr_own (l := [x]) (pin := pin) (R := R) ho (by decide) hRl rfl (by decide) (tks_push (C := #[]) (l := []) (fun i y hy => by simp at hy) (by simp) hX hs)
    have hq := (h.keep hbg).r
    exact ⟨T, c, w', hr, hq.lay htr rfl, hq.c3, hq.fz 3, .inr hT, Upd.below hbg⟩
  · have htk := ht.keep hb1
    by_cases hroom : l.length + 1 ≤ cap
    · have hc2 : ∀ j, j < X.toList.length → ((w.alloc (.cells X 216)).cell? ⟨T, 0 + l.length * i0.size + j, none⟩).isSome = true := fun j hj => by
        have hj' : j < 15 := by simpa [hs] using hj
        have := ht.sz
        rw [htk.row.cell, hz1, Array.getElem?_eq_getElem (by omega)]
        rfl
      have hf2 : ∀ j, j < X.toList.length → (w.alloc (.cells X 216)).frozen? ⟨T, 0 + l.length * i0.size + j, none⟩ = false := fun j _ => htk.row.fz _
      have hr := run_append_room_cells (P := Tryz.prog) (w := w.alloc (.cells X 216)) 207 207 216 i0 Tryz.underlying207 hi T 0 l.length cap ⟨w.heap.size, 0, none⟩ 1 1 X.toList (by rw [hz1]; simpa using hs) hnew hone hroom hc2 hf2
      rw [hz1, htk.row.setCells X.toList (by have := ht.sz; simp [hs]; omega)] at hr
      have hu2 : Upd (fun k => k = T) (w.alloc (.cells X 216)) ((w.alloc (.cells X 216)).setRow T (putA C (0 + l.length * 15) X.toList)) := Upd.setRow _ _ rfl
      have hq := hk.r.upd hu2 (fun e => ht.ne e.symm)
      have hpl : 0 + l.length * 15 + X.toList.length ≤ C.size := by have := ht.sz; simp [hs]; omega
      refine ⟨T, cap, _, hr, hq.lay (C := putA C (0 + l.length * 15) X.toList) ⟨ht.ne, htk.row.setRow _, ?_, ht.mx, by simpa using hroom, by simp; omega, ?_⟩ (by simp), hq.c3, hq.fz 3, .inl rfl, (Upd.below hb1).trans' hu2 (fun k _ e => .inr ⟨_, rfl, e⟩)⟩
      · rw [putA_size hpl]; exact ht.sz
      · intro i y hy
        by_cases hi : i < l.length
        · rw [List.getElem?_append_left hi] at hy
          refine (ht.tks i y hy).of fun j hj => ?_
          rw [putA_get hpl, if_neg (by omega)]
        · rw [List.getElem?_append_right (by omega)] at hy
          have h0 : i = l.length := by
            have := (List.getElem?_eq_some_iff.1 hy).1
            simp at this
            omega
          subst h0
          simp at hy
          subst hy
          refine hX.of fun j hj => ?_
          rw [putA_get hpl, if_pos (by simp [hs]; omega)]
          simp
    · have hlo : (C.toList.take (l.length * 15)).length = l.length * 15 := by rw [List.length_take]; have := ht.sz; have := ht.len; simp; omega
      obtain ⟨v', w', hr, ho, hg⟩ := run_append_arg_grows (P := Tryz.prog) (w := w.alloc (.cells X 216)) 207 207 216 i0 _ 15 112 Tryz.underlying207 hi hz0 hz1 hz2 rfl (by decide) ⟨T, 0, none⟩ l.length cap (C.toList.take (l.length * 15)) hlo (fun j u hu => by
        rw [List.getElem?_take] at hu
        split at hu
        · rw [Addr.add_lit, htk.row.cell]; simpa using hu
        · cases hu) ⟨w.heap.size, 0, none⟩ 1 1 X.toList (by simpa using hs) hnew (by omega) (by unfold maxLen; omega) (by omega)
      have hbg : Below w.heap.size w w' := hb1.trans ((Below.refl _ _).grown hg (by simp) (fun k hk => by cases hk))
      obtain ⟨T', c, C', rfl, hT, htr⟩ := tkr_own (l := l ++ [x]) (pin := pin) (R := R) ho (by omega) (by omega) (by simp) (by omega) (tks_push ht.tks (by have := ht.sz; have := ht.len; omega) hX hs)
      have hq := (h.keep hbg).r
      exact ⟨T', c, w', hr, hq.lay htr (by simp), hq.c3, hq.fz 3, .inr (by omega), Upd.below hbg⟩
end
end Go.Proofs.YtnbhohaphmilmaaGreatDoor
