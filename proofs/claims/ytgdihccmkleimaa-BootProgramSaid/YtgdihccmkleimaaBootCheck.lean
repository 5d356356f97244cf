/- The walk of load.Check. -/
import Derived.Test.YtgdihccmkleimaaBootWord
import Derived.WalkSmall
import Derived.Deep.Cut
import Derived.Deep.CutRange
import Derived.Deep.RegionHeld3
namespace Go.Proofs.Ytgdihccmkleimaa.BootLaw
open Go.RowKit
set_option linter.unusedVariables false
set_option linter.unusedSimpArgs false
def conv853 (x : Value) : Sem Value := convert 85 3 x
theorem conv853_eq (x : Value) : convert 85 3 x = conv853 x := rfl
def quo3 (x y : Value) : Sem Value := binOp .quo 3 x y
theorem quo3_eq (x y : Value) : binOp .quo 3 x y = quo3 x y := rfl
theorem wrap_e {n : Int} (h0 : 0 ≤ n) (h1 : n < 4294967296) : IntKind.i64.wrap n = n := by
  simp [IntKind.wrap, IntKind.bits, IntKind.signed]
  split <;> omega
theorem conv_e {e : Nat} (h : e < 4294967296) (w : World) : (conv853 (.int .u32 e)).run Try.prog w = .ok (.int .i64 e) w := by
  have k := wrap_e (n := (e : Int)) (by omega) (by omega)
  unfold conv853
  simp [go_sem, k]
theorem quo_e {e : Nat} (h : e < 4294967296) (w : World) : (quo3 (.int .i64 e) (.int .i64 16)).run Try.prog w = .ok (.int .i64 ((e : Int) / 16)) w := by
  have k : (e : Int).tdiv 16 = (e : Int) / 16 := by rw [Int.tdiv_eq_ediv_of_nonneg (by omega)]
  have k2 := wrap_e (n := (e : Int) / 16) (by omega) (by omega)
  unfold quo3
  simp [go_sem, k, k2]
/-- pages in a slice -/
def PgS (w : World) (v : Value) (ps : List Pg) : Prop :=
  ∃ (a : Option Addr) (cap : Nat), v = .slice a ps.length cap ∧ ps.length ≤ cap ∧ cap ≤ maxLen ∧
    (ps = [] ∨ ∃ (b off : Nat) (D : Nat → Value), a = some ⟨b, off, none⟩ ∧ b < w.heap.size ∧ ∀ i, i < ps.length → w.cell? ⟨b, off + i * 3, none⟩ = some (.int .i64 (pAt ps i).pg) ∧ w.cell? ⟨b, off + i * 3 + 1, none⟩ = some (.int .i64 (pAt ps i).rt) ∧ w.cell? ⟨b, off + i * 3 + 2, none⟩ = some (D i) ∧ BS w (D i) (pAt ps i).da)
theorem PgS.keep {w w' : World} {v : Value} {ps : List Pg} (h : PgS w v ps) (hb : Below w.heap.size w w') : PgS w' v ps := by
  obtain ⟨a, cap, hv, hl, hm, h⟩ := h
  refine ⟨a, cap, hv, hl, hm, ?_⟩
  rcases h with h | ⟨b, off, D, ha, hlt, hc⟩
  · exact .inl h
  · refine .inr ⟨b, off, D, ha, Nat.lt_of_lt_of_le hlt hb.size, fun i hi => ?_⟩
    obtain ⟨c0, c1, c2, c3⟩ := hc i hi
    exact ⟨(hb.cell (p := ⟨b, _, none⟩) hlt).trans c0, (hb.cell (p := ⟨b, _, none⟩) hlt).trans c1, (hb.cell (p := ⟨b, _, none⟩) hlt).trans c2, c3.keep hb⟩
def stB (e : Nat) (ps : List Pg) : Nat → Bool
  | 0 => false
  | i + 1 => stB e ps i || begins e (pAt ps i)
theorem stB_iff {e : Nat} {ps : List Pg} : ∀ {n : Nat}, stB e ps n = true ↔ ∃ i, i < n ∧ begins e (pAt ps i) = true
  | 0 => by simp [stB]
  | n + 1 => by
    unfold stB
    rw [Bool.or_eq_true, stB_iff (n := n)]
    constructor
    · rintro (⟨i, hi, hb⟩ | hb)
      · exact ⟨i, by omega, hb⟩
      · exact ⟨n, by omega, hb⟩
    · rintro ⟨i, hi, hb⟩
      by_cases h : i < n
      · exact .inl ⟨i, h, hb⟩
      · obtain rfl : i = n := by omega
        exact .inr hb
theorem bit4 {r : Int} (h1 : 1 ≤ r) (h5 : r ≤ 5) : (bits .and .i64 r 4 != 0) = decide (4 ≤ r) := by
  have : r = 1 ∨ r = 2 ∨ r = 3 ∨ r = 4 ∨ r = 5 := by omega
  rcases this with rfl | rfl | rfl | rfl | rfl <;> decide
def okB (i : Nat) (pq pg rt : Int) (n : Nat) : Bool := decide (0 ≤ pg) && decide (pg < 64) && (decide (i = 0) || decide (pq < pg)) && (decide (1 ≤ rt) && decide (rt ≤ 5)) && decide (n ≤ 16)
theorem okB_iff {i n : Nat} {pq pg rt : Int} : okB i pq pg rt n = true ↔ 0 ≤ pg ∧ pg < 64 ∧ (0 < i → pq < pg) ∧ 1 ≤ rt ∧ rt ≤ 5 ∧ n ≤ 16 := by
  simp [okB]
  constructor
  · rintro ⟨⟨⟨⟨a, b⟩, c⟩, d, e⟩, f⟩
    exact ⟨a, b, fun h => by rcases c with c | c <;> omega, d, e, f⟩
  · rintro ⟨a, b, c, d, e, f⟩
    exact ⟨⟨⟨⟨a, b⟩, by by_cases h : i = 0; exact .inl h; exact .inr (c (by omega))⟩, d, e⟩, f⟩
theorem okB_no {i n : Nat} {pq pg rt : Int} (h : ¬ (0 ≤ pg ∧ pg < 64 ∧ (0 < i → pq < pg) ∧ 1 ≤ rt ∧ rt ≤ 5 ∧ n ≤ 16)) : okB i pq pg rt n = false := by
  rw [← Bool.not_eq_true, okB_iff]
  exact h
/-- what Check answers -/
def CheckPost (e : Nat) (ps : List Pg) (w : World) (E : Ending) (w' : World) : Prop := ∃ c : Int, E = .returned (.int .i64 c) ∧ (c = 0 ∧ Right e ps ∨ c ≠ 0 ∧ ¬ Right e ps) ∧ Below w.heap.size w w'
attribute [local go_sem ↓] conv853_eq quo3_eq
set_option maxRecDepth 100000 in
set_option maxHeartbeats 1000000 in
theorem check_is {w : World} {e : Nat} {v : Value} {ps : List Pg} (he : e < 4294967296) (h : PgS w v ps) : Calls Try.prog 73 #[.agg #[.int .u32 e, v]] w (CheckPost e ps w) := by
  obtain ⟨a, cap, rfl, hl, hcap, hc⟩ := h
  have HC := Lib.hid hc
  have HE := Lib.hid he
  have hb0 := Go.Joins.below_alloc1 w (.cells #[.int .u32 e, .slice a ps.length cap] 88)
  have h0 := heap_alloc_new w (.cells #[.int .u32 e, .slice a ps.length cap] 88)
  have HB0 := Lib.hid hb0
  have H0 := Lib.hid h0
  clear hc he hb0 h0
  go_enter Try.func73, Try.ntmps73
  go_upto_region 1 with fail
  revert HB0 H0
  generalize w.alloc (.cells #[.int .u32 e, .slice a ps.length cap] 88) = W0
  intro HB0 H0
  have c0 : W0.cell? ⟨w.heap.size, 0, none⟩ = some (.int .u32 e) := by rw [cell_of_row _ _ _ _ _ _ H0.out]; rfl
  have c1 : W0.cell? ⟨w.heap.size, 1, none⟩ = some (.slice a ps.length cap) := by rw [cell_of_row _ _ _ _ _ _ H0.out]; rfl
  by_cases h64 : 64 < ps.length
  · have d1 : decide (64 < ps.length) = true := decide_eq_true h64
    have d2 : (64 : Int) < (ps.length : Int) := by omega
    go_wp2_with fail
    go_ret
    exact ⟨2, rfl, .inr ⟨by decide, fun hr => by have := hr.len; omega⟩, HB0.out⟩
  · have d1 : decide (64 < ps.length) = false := decide_eq_false h64
    have d2 : ¬ (64 : Int) < (ps.length : Int) := by omega
    have hl64 : (ps.length : Int) ≤ 64 := by omega
    have HL := Lib.hid h64
    clear hl hcap h64
    go_wp2_with fail
    go_loopw [3, 13] (fun sv iv wr => ∃ i : Nat, i ≤ ps.length ∧ iv = .int .i64 i ∧ sv = .bool (stB e ps i) ∧ Hid (∀ j, j < i → OkAt ps j) ∧ Hid (Below W0.heap.size W0 wr)) (fun _ iv _ => ps.length - (intOf iv).toNat)
    case atStart => exact ⟨0, by omega, rfl, rfl, fun j h => absurd h (Nat.not_lt_zero _), Below.refl _ _⟩
    case round =>
      obtain ⟨i, hi, rfl, rfl, HOK, HBL⟩ := hrel
      by_cases hil : i < ps.length
      · rcases HC.out with h | ⟨b, off, D, rfl, hlt, hcell⟩
        · rw [h] at hil; simp at hil
        · have hbw := HB0.out.trans (HBL.out.mono HB0.out.size)
          have hc0 := fun j (hj : j < ps.length) => (hbw.cell (p := ⟨b, off + j * 3, none⟩) hlt).trans (hcell j hj).1
          have hc1 := fun j (hj : j < ps.length) => (hbw.cell (p := ⟨b, off + j * 3 + 1, none⟩) hlt).trans (hcell j hj).2.1
          have hc2 := fun j (hj : j < ps.length) => (hbw.cell (p := ⟨b, off + j * 3 + 2, none⟩) hlt).trans (hcell j hj).2.2.1
          obtain ⟨da, dc, hd, hdl, hdm, hdc⟩ := (hcell i hil).2.2.2
          have x0 := hc0 i hil
          have x1 := hc1 i hil
          have x2 := hc2 i hil
          rw [hd] at x2
          have f0 := (HBL.out.cell (p := ⟨w.heap.size, 0, none⟩) (by have := HB0.out.size; have := World.block_lt_of_cell? W0 _ c0; exact this)).trans c0
          have f1 := (HBL.out.cell (p := ⟨w.heap.size, 1, none⟩) (by have := World.block_lt_of_cell? W0 _ c1; exact this)).trans c1
          have hdi : (i : Int) < (ps.length : Int) := by omega
          have HBW := Lib.hid hbw
          have HPV := Lib.hid (fun (h0 : 0 < i) => hc0 (i - 1) (by omega))
          have hok0 : OkAt ps i → ∀ j, j < i + 1 → OkAt ps j := fun h j hj => by
            by_cases q : j < i
            · exact HOK.out j q
            · obtain rfl : j = i := by omega
              exact h
          have HON := Lib.hid hok0
          have hstn : stB e ps (i + 1) = (stB e ps i || (decide ((e : Int) / 16 = (pAt ps i).pg) && decide (4 ≤ (pAt ps i).rt))) := rfl
          have HST := Lib.hid hstn
          have hno : ∀ h : Right e ps, OkAt ps i := fun h => h.all i hil
          have HNO := Lib.hid hno
          have hpp : ∀ h0 : 0 < i, wr.cell? ⟨b, off + (i - 1) * 3, none⟩ = some (.int .i64 (pAt ps (i - 1)).pg) := fun h0 => hc0 (i - 1) (by omega)
          have HPP := Lib.hid hpp
          clear hbw hc0 hc1 hc2 hd hdc hcell hok0 hstn hno hpp
          have HOKI := Lib.hid (fun a1 a2 a3 a4 a5 a6 => (⟨a1, a2, a3, a4, a5, a6⟩ : OkAt ps i))
          obtain ⟨pq, hpq⟩ : ∃ pq, (pAt ps (i - 1)).pg = pq := ⟨_, rfl⟩
          rw [hpq] at HPP HOKI
          generalize hgen : pAt ps i = p at *
          obtain ⟨pg, rt, dl⟩ := p
          dsimp only at x0 x1 x2 hdl hdm
          go_upto_region 7 with fail
          have hal := Go.Joins.below_alloc1 wr (.cells #[.int .i64 pg, .int .i64 rt, .slice da dl.length dc] 96)
          have hh := heap_alloc_new wr (.cells #[.int .i64 pg, .int .i64 rt, .slice da dl.length dc] 96)
          have y0 : (wr.alloc (.cells #[.int .i64 pg, .int .i64 rt, .slice da dl.length dc] 96)).cell? ⟨wr.heap.size, 0, none⟩ = some (.int .i64 pg) := by rw [cell_of_row _ _ _ _ _ _ hh]; rfl
          have y1 : (wr.alloc (.cells #[.int .i64 pg, .int .i64 rt, .slice da dl.length dc] 96)).cell? ⟨wr.heap.size, 1, none⟩ = some (.int .i64 rt) := by rw [cell_of_row _ _ _ _ _ _ hh]; rfl
          have y2 : (wr.alloc (.cells #[.int .i64 pg, .int .i64 rt, .slice da dl.length dc] 96)).cell? ⟨wr.heap.size, 2, none⟩ = some (.slice da dl.length dc) := by rw [cell_of_row _ _ _ _ _ _ hh]; rfl
          have f0' := (hal.cell (p := ⟨w.heap.size, 0, none⟩) (World.block_lt_of_cell? wr _ f0)).trans f0
          have f1' := (hal.cell (p := ⟨w.heap.size, 1, none⟩) (World.block_lt_of_cell? wr _ f1)).trans f1
          have hpp' := fun h0 => (hal.cell (p := ⟨b, off + (i - 1) * 3, none⟩) (by have := HBW.out.size; show b < _; omega)).trans (HPP.out h0)
          have HPQ := Lib.hid hpp'
          have HBX := Lib.hid (HBW.out.trans (hal.mono HBW.out.size))
          have HBY := Lib.hid (HBL.out.trans (hal.mono HBL.out.size))
          clear hal hh f0 f1 x0 x1 x2 hpp' HPP HBW HBL HPV
          revert y0 y1 y2 f0' f1' HPQ HBX HBY
          generalize wr.alloc (.cells #[.int .i64 pg, .int .i64 rt, .slice da dl.length dc] 96) = W9
          generalize wr.heap.size = n5
          intro y0 y1 y2 f0' f1' HPQ HBX HBY
          have hdl63 : (dl.length : Int) ≤ 9223372036854775807 := by unfold maxLen at hdm; omega
          have hiff : OkAt ps i ↔ okB i pq pg rt dl.length = true := by
            rw [okB_iff]
            constructor
            · rintro ⟨a, b, c, d, e, f⟩
              rw [hgen] at a b c d e f
              rw [hpq] at c
              exact ⟨a, b, c, d, e, f⟩
            · rintro ⟨a, b, c, d, e, f⟩
              refine ⟨?_, ?_, ?_, ?_, ?_, ?_⟩ <;> rw [hgen]
              · exact a
              · exact b
              · rw [hpq]; exact c
              · exact d
              · exact e
              · exact f
          have HIF := Lib.hid hiff
          clear hdl hdm hgen hpq hiff HOKI
          go_cut [13, 53] from 13 to 70 (fun s13 s53 wx => s13 = .int .i64 i ∧ s53 = .bool (!okB i pq pg rt dl.length) ∧ ∃ k, wx = W9.drewN k)
          case first =>
            have HMY := Lib.hid (fun w => may_is rt w)
            by_cases p0 : pg < 0
            · have a1 : decide (pg < 0) = true := decide_eq_true p0
              go_wp2_with fail
              go_quiet (first | (go_at_call 77; refine Calls.quiet_of_same (HMY.out _)))
              go_wp2_with fail
              go_meet
              case rel => exact ⟨rfl, by rw [okB_no (fun h => by have := h.1; omega)]; rfl, _, rfl⟩
            · have a1 : decide (pg < 0) = false := decide_eq_false p0
              by_cases p1 : 64 ≤ pg
              · have a2 : decide (64 ≤ pg) = true := decide_eq_true p1
                go_wp2_with fail
                go_quiet (first | (go_at_call 77; refine Calls.quiet_of_same (HMY.out _)))
                go_wp2_with fail
                go_meet
                case rel => exact ⟨rfl, by rw [okB_no (fun h => by have := h.2.1; omega)]; rfl, _, rfl⟩
              · have a2 : decide (64 ≤ pg) = false := decide_eq_false p1
                by_cases i0 : i = 0
                · subst i0
                  by_cases m : (decide (1 ≤ rt) && decide (rt ≤ 5)) = true
                  · rw [m] at HMY
                    by_cases e16 : 16 < dl.length
                    · have a4 : decide (16 < dl.length) = true := decide_eq_true e16
                      have a5 : (16 : Int) < (dl.length : Int) := by omega
                      go_wp2_with fail
                      go_quiet (first | (go_at_call 77; refine Calls.quiet_of_same (HMY.out _)))
                      go_wp2_with fail
                      go_meet
                      case rel => exact ⟨rfl, by rw [okB_no (fun h => by have := h.2.2.2.2.2; omega)]; rfl, _, rfl⟩
                    · have a4 : decide (16 < dl.length) = false := decide_eq_false e16
                      have a5 : ¬ (16 : Int) < (dl.length : Int) := by omega
                      go_wp2_with fail
                      go_quiet (first | (go_at_call 77; refine Calls.quiet_of_same (HMY.out _)))
                      go_wp2_with fail
                      go_meet
                      case rel => exact ⟨rfl, by rw [show okB _ _ _ _ _ = true from okB_iff.2 ⟨by omega, by omega, fun _ => by omega, by simp at m; omega, by simp at m; omega, by omega⟩]; simp; omega, _, rfl⟩
                  · have mf : (decide (1 ≤ rt) && decide (rt ≤ 5)) = false := by simpa using m
                    rw [mf] at HMY
                    go_wp2_with fail
                    go_quiet (first | (go_at_call 77; refine Calls.quiet_of_same (HMY.out _)))
                    go_wp2_with fail
                    go_meet
                    case rel => exact ⟨rfl, by rw [okB_no (fun h => by have h1 := h.2.2.2.1; have h2 := h.2.2.2.2.1; simp [h1, h2] at mf)]; rfl, _, rfl⟩
                · obtain ⟨j, rfl⟩ : ∃ j, i = j + 1 := ⟨i - 1, by omega⟩
                  have hj := HPQ.out (by omega)
                  rw [show j + 1 - 1 = j by omega] at hj
                  have j0 : (0 : Int) < (j : Int) + 1 := by omega
                  have jl : (j : Int) < (ps.length : Int) := by omega
                  by_cases pc : pg ≤ pq
                  · have a3 : decide (pg ≤ pq) = true := decide_eq_true pc
                    go_wp2_with fail
                    go_quiet (first | (go_at_call 77; refine Calls.quiet_of_same (HMY.out _)))
                    go_wp2_with fail
                    go_meet
                    case rel => exact ⟨rfl, by rw [okB_no (fun h => by have := h.2.2.1 (by omega); omega)]; rfl, _, rfl⟩
                  · have a3 : decide (pg ≤ pq) = false := decide_eq_false pc
                    by_cases m : (decide (1 ≤ rt) && decide (rt ≤ 5)) = true
                    · rw [m] at HMY
                      by_cases e16 : 16 < dl.length
                      · have a4 : decide (16 < dl.length) = true := decide_eq_true e16
                        have a5 : (16 : Int) < (dl.length : Int) := by omega
                        go_wp2_with fail
                        go_quiet (first | (go_at_call 77; refine Calls.quiet_of_same (HMY.out _)))
                        go_wp2_with fail
                        go_meet
                        case rel => exact ⟨rfl, by rw [okB_no (fun h => by have := h.2.2.2.2.2; omega)]; rfl, _, rfl⟩
                      · have a4 : decide (16 < dl.length) = false := decide_eq_false e16
                        have a5 : ¬ (16 : Int) < (dl.length : Int) := by omega
                        go_wp2_with fail
                        go_quiet (first | (go_at_call 77; refine Calls.quiet_of_same (HMY.out _)))
                        go_wp2_with fail
                        go_meet
                        case rel => exact ⟨rfl, by rw [show okB _ _ _ _ _ = true from okB_iff.2 ⟨by omega, by omega, fun _ => by omega, by simp at m; omega, by simp at m; omega, by omega⟩]; simp; omega, _, rfl⟩
                    · have mf : (decide (1 ≤ rt) && decide (rt ≤ 5)) = false := by simpa using m
                      rw [mf] at HMY
                      go_wp2_with fail
                      go_quiet (first | (go_at_call 77; refine Calls.quiet_of_same (HMY.out _)))
                      go_wp2_with fail
                      go_meet
                      case rel => exact ⟨rfl, by rw [okB_no (fun h => by have h1 := h.2.2.2.1; have h2 := h.2.2.2.2.1; simp [h1, h2] at mf)]; rfl, _, rfl⟩
          case rest =>
            obtain ⟨rfl, rfl, kq, rfl⟩ := hcut
            by_cases hb : okB i pq pg rt dl.length = true
            · have hk := HON.out (HIF.out.2 hb)
              have HKN := Lib.hid hk
              obtain ⟨_, _, _, r1, r5, _⟩ := okB_iff.1 hb
              have hbit := bit4 r1 r5
              have ce := conv_e HE.out
              have qe := quo_e HE.out
              rw [hb]
              clear hk r1 r5 hb HON HIF HNO HC
              obtain ⟨st, hst⟩ : ∃ st, stB e ps i = st := ⟨_, rfl⟩
              rw [hst] at HST ⊢
              clear hst
              cases st
              · by_cases ea : (e : Int) / 16 = pg
                · have ea2 : ((e : Int) / 16 == pg) = true := by simpa using ea
                  by_cases r4 : 4 ≤ rt
                  · rw [decide_eq_true r4] at hbit HST
                    rw [decide_eq_true ea] at HST
                    go_wp2_with fail
                    go_roundw
                    case rel => exact ⟨i + 1, by omega, by go_num, by rw [HST.out]; rfl, HKN, below_drewN HBY.out _⟩
                    case measure => simp [intOf]; omega
                  · rw [decide_eq_false r4] at hbit HST
                    rw [decide_eq_true ea] at HST
                    go_wp2_with fail
                    go_roundw
                    case rel => exact ⟨i + 1, by omega, by go_num, by rw [HST.out]; rfl, HKN, below_drewN HBY.out _⟩
                    case measure => simp [intOf]; omega
                · have ea2 : ((e : Int) / 16 == pg) = false := by simpa using ea
                  rw [decide_eq_false ea] at HST
                  go_wp2_with fail
                  go_roundw
                  case rel => exact ⟨i + 1, by omega, by go_num, by rw [HST.out]; rfl, HKN, below_drewN HBY.out _⟩
                  case measure => simp [intOf]; omega
              · go_wp2_with fail
                go_roundw
                case rel => exact ⟨i + 1, by omega, by go_num, by rw [HST.out]; rfl, HKN, below_drewN HBY.out _⟩
                case measure => simp [intOf]; omega
            · have hb' : okB i pq pg rt dl.length = false := by simpa using hb
              rw [hb']
              go_wp2_with fail
              go_ret
              exact ⟨3, rfl, .inr ⟨by decide, fun hr => hb (HIF.out.1 (HNO.out hr))⟩, below_drewN HBX.out _⟩
      · obtain rfl : i = ps.length := by omega
        have f0 := (HBL.out.cell (p := ⟨w.heap.size, 0, none⟩) (World.block_lt_of_cell? W0 _ c0)).trans c0
        have HBW := Lib.hid (HB0.out.trans (HBL.out.mono HB0.out.size))
        have hst := stB_iff (e := e) (ps := ps) (n := ps.length)
        have HST := Lib.hid hst
        clear hst
        generalize stB e ps ps.length = st at *
        by_cases e4 : e % 4 = 0
        · have e40 : ((e : Int) % 4 != 0) = false := by simp; omega
          cases st
          · go_wp2_with fail
            go_ret
            exact ⟨3, rfl, .inr ⟨by decide, fun hr => by have := HST.out.2 hr.st; cases this⟩, HBW.out⟩
          · go_wp2_with fail
            go_ret
            exact ⟨0, rfl, .inl ⟨rfl, ⟨by have := HL.out; omega, HOK.out, e4, HST.out.1 (by trivial)⟩⟩, HBW.out⟩
        · have e40 : ((e : Int) % 4 != 0) = true := by simp; omega
          go_wp2_with fail
          go_ret
          exact ⟨3, rfl, .inr ⟨by decide, fun hr => e4 hr.e4⟩, HBW.out⟩
end Go.Proofs.Ytgdihccmkleimaa.BootLaw
