/- The walk of ringkeep5.LimitAll. -/
import Derived.Test.YtgdihccmkleimaaLimitBack
import Derived.Test.YtgdihccmkleimaaTab
namespace Go.Proofs.Ytgdihccmkleimaa.LimitLaw
open Go.RowKit
open BoxLaw (Rg Lies IsL cellsR cellsR_at cellsR_length)
set_option linter.unusedVariables false

theorem ones (w : World) (a b : Int) (T : TypeId) : (w.alloc (.cells #[.int .i64 a, .int .i64 b] T)).cell? ⟨w.heap.size, 0, none⟩ = some (.int .i64 a) ∧ (w.alloc (.cells #[.int .i64 a, .int .i64 b] T)).cell? ⟨w.heap.size, 1, none⟩ = some (.int .i64 b) := by
  constructor <;> (rw [cell_of_row _ _ _ _ _ _ (heap_alloc_new w _)]; rfl)

set_option maxRecDepth 100000 in
set_option maxHeartbeats 4000000 in
theorem limitall_some (b off cap len : Nat) (F : Nat → Nat → Int) {w : World} {v : Value} {l : List Rg} (h : IsL w v l) (hlen : len ≤ cap) (hmax : len ≤ 9223372036854775807) (hlt : b < w.heap.size)
    (hF : ∀ i, i < len → ∀ j, j < 2 → w.cell? ⟨b, off + i * 2 + j, none⟩ = some (.int .i64 (F i j)) ∧ -9223372036854775808 ≤ F i j ∧ F i j ≤ 9223372036854775807) :
    Calls Try.prog 10 #[v, .slice (some ⟨b, off, none⟩) len cap] w fun e w' => e = .returned (.bool true) ∧ Below w.heap.size w w' := by
  have HI := Lib.hid h
  have HF := Lib.hid hF
  clear h hF
  by_cases hc : chkT l = 0
  · have hce : (chkT l != 0) = false := by simp [hc]
    clear hc
    go_enter Try.func10, Try.ntmps10
    go_wp2_with fail
    refine (limits_any _).mono ?_
    rintro e w1 ⟨rfl, hb1⟩
    go_wp2_with fail
    refine (check_is (HI.out.below hb1)).mono ?_
    rintro e w2 ⟨rfl, hb2⟩
    have hb12 := hb1.trans (hb2.mono hb1.size)
    have HI2 := Lib.hid (HI.out.below hb12)
    clear hb1 hb2
    go_wp2_with fail
    go_loopw [0, 16] (fun lv iv wr => ∃ (k : Nat) (cur : List Rg), k ≤ len ∧ iv = .int .i64 k ∧ Hid (IsL wr lv cur) ∧ Below w.heap.size w wr) (fun _ iv _ => len - (intOf iv).toNat)
    case atStart => exact ⟨0, l, Nat.zero_le _, rfl, HI2, hb12⟩
    case round =>
      clear HI2 hb12
      obtain ⟨k, cur, hk, rfl, HC, hbel⟩ := hrel
      by_cases hlt2 : k < len
      · obtain ⟨f0, f0a, f0b⟩ := HF.out k hlt2 0 (by decide)
        obtain ⟨f1, f1a, f1b⟩ := HF.out k hlt2 1 (by decide)
        have g0 := (hbel.cell (p := ⟨b, off + k * 2, none⟩) hlt).trans f0
        have g1 := (hbel.cell (p := ⟨b, off + k * 2 + 1, none⟩) hlt).trans f1
        clear f0 f1
        obtain ⟨x, hx⟩ : ∃ x, x = F k 0 := ⟨_, rfl⟩
        obtain ⟨y, hy⟩ : ∃ y, y = F k 1 := ⟨_, rfl⟩
        rw [← hx] at g0 f0a f0b
        rw [← hy] at g1 f1a f1b
        clear hx hy
        have hcur : Below wr.heap.size wr (wr.alloc (.cells #[.int .i64 x, .int .i64 y] 71)) := (Below.refl _ _).alloc (Nat.le_refl _) _
        have hbx := hbel.trans (hcur.mono hbel.size)
        have HCx := Lib.hid (HC.out.below hcur)
        obtain ⟨p0, p1⟩ := ones wr x y 71
        have hsz : wr.heap.size < (wr.alloc (.cells #[.int .i64 x, .int .i64 y] 71)).heap.size := by simp
        clear hcur
        go_wp2_with fail
        refine (take_is x y HCx.out).mono ?_
        rintro e w3 ⟨v3, rfl, hI3, hb3⟩
        have p0' := (hb3.cell (p := ⟨wr.heap.size, 0, none⟩) hsz).trans p0
        have p1' := (hb3.cell (p := ⟨wr.heap.size, 1, none⟩) hsz).trans p1
        have hby := hbx.trans (hb3.mono hbx.size)
        have HC3 := Lib.hid (HCx.out.below hb3)
        clear hbx hb3 p0 p1 HCx
        by_cases ho : (k : Int) % 2 = 1
        · have hob : ((k : Int) % 2 == 1) = true := by simp [ho]
          clear ho
          go_wp2_with fail
          refine (give_is x y HC3.out).mono ?_
          rintro e w4 ⟨v4, rfl, hI4, hb4⟩
          have hbz := hby.trans (hb4.mono hby.size)
          have HC4 := Lib.hid (HC3.out.below hb4)
          clear hby hb4 HC3
          rcases give_step cur x y with hne | ⟨hz, hc0, hl0⟩
          · have heb : ((giveR cur x y).2 != 0) = true := by simpa using hne
            clear hne
            go_wp2_with fail
            go_roundw
            case rel => exact ⟨k + 1, cur, by omega, by go_num, HC4, hbz⟩
            case measure => simp [intOf]; omega
          · obtain ⟨p, hp⟩ : ∃ p, p = giveR cur x y := ⟨_, rfl⟩
            rw [← hp] at hz hc0 hl0 hI4 ⊢
            clear hp
            obtain ⟨m, e⟩ := p
            simp only at hz hc0 hl0 hI4
            subst hz
            have HM := Lib.hid hI4
            have HZ := Lib.hid hc0
            obtain ⟨am, capm, rfl, hlm, _⟩ := hI4
            obtain ⟨ac, capc, rfl, hlc, _⟩ := HC4.out
            rw [hl0] at HM ⊢
            obtain ⟨lc, hlc'⟩ : ∃ lc, lc = cur.length := ⟨_, rfl⟩
            rw [← hlc'] at HM hlc ⊢
            clear hlm hlc' hl0
            go_wp2_with fail
            refine (check_is HM.out).mono ?_
            rintro e w9 ⟨rfl, hb9⟩
            rw [HZ.out]
            go_wp2_with fail
            go_roundw
            case rel => exact ⟨k + 1, m, by omega, by go_num, Lib.hid (HM.out.below hb9), hbz.trans (hb9.mono hbz.size)⟩
            case measure => simp [intOf]; omega
        · have hob : ((k : Int) % 2 == 1) = false := by simp [ho]
          clear ho
          rcases take_step cur x y with hne | ⟨hz, hc0, hl0⟩
          · have heb : ((takeR cur x y).2 != 0) = true := by simpa using hne
            clear hne
            go_wp2_with fail
            go_roundw
            case rel => exact ⟨k + 1, cur, by omega, by go_num, HC3, hby⟩
            case measure => simp [intOf]; omega
          · obtain ⟨p, hp⟩ : ∃ p, p = takeR cur x y := ⟨_, rfl⟩
            rw [← hp] at hz hc0 hl0 hI3 ⊢
            clear hp
            obtain ⟨m, e⟩ := p
            simp only at hz hc0 hl0 hI3
            subst hz
            have HM := Lib.hid hI3
            have HZ := Lib.hid hc0
            obtain ⟨am, capm, rfl, hlm, _⟩ := hI3
            obtain ⟨ac, capc, rfl, hlc, _⟩ := HC3.out
            rw [hl0] at HM ⊢
            obtain ⟨lc, hlc'⟩ : ∃ lc, lc = cur.length := ⟨_, rfl⟩
            rw [← hlc'] at HM hlc ⊢
            clear hlm hlc' hl0
            go_wp2_with fail
            refine (check_is HM.out).mono ?_
            rintro e w9 ⟨rfl, hb9⟩
            rw [HZ.out]
            go_wp2_with fail
            go_roundw
            case rel => exact ⟨k + 1, m, by omega, by go_num, Lib.hid (HM.out.below hb9), hby.trans (hb9.mono hby.size)⟩
            case measure => simp [intOf]; omega
      · obtain rfl : k = len := by omega
        go_wp2
        go_ret
        exact ⟨rfl, hbel⟩
  · have hce : (chkT l != 0) = true := by simp [hc]
    clear hc
    go_enter Try.func10, Try.ntmps10
    go_wp2_with fail
    refine (limits_any _).mono ?_
    rintro e w1 ⟨rfl, hb1⟩
    go_wp2_with fail
    refine (check_is (HI.out.below hb1)).mono ?_
    rintro e w2 ⟨rfl, hb2⟩
    go_wp2
    go_ret
    exact ⟨rfl, hb1.trans (hb2.mono hb1.size)⟩

theorem limitall_none (a : Option Addr) (cap : Nat) {w : World} {v : Value} {l : List Rg} (h : IsL w v l) :
    Calls Try.prog 10 #[v, .slice a 0 cap] w fun e w' => e = .returned (.bool true) ∧ Below w.heap.size w w' := by
  have HI := Lib.hid h
  clear h
  by_cases hc : chkT l = 0
  · have hce : (chkT l != 0) = false := by simp [hc]
    clear hc
    go_enter Try.func10, Try.ntmps10
    go_wp2_with fail
    refine (limits_any _).mono ?_
    rintro e w1 ⟨rfl, hb1⟩
    go_wp2_with fail
    refine (check_is (HI.out.below hb1)).mono ?_
    rintro e w2 ⟨rfl, hb2⟩
    go_wp2
    refine wp_loop_rounds 1 ?_
    rw [rounds_succ]
    go_wp2
    go_ret
    exact ⟨rfl, hb1.trans (hb2.mono hb1.size)⟩
  · have hce : (chkT l != 0) = true := by simp [hc]
    clear hc
    go_enter Try.func10, Try.ntmps10
    go_wp2_with fail
    refine (limits_any _).mono ?_
    rintro e w1 ⟨rfl, hb1⟩
    go_wp2_with fail
    refine (check_is (HI.out.below hb1)).mono ?_
    rintro e w2 ⟨rfl, hb2⟩
    go_wp2
    go_ret
    exact ⟨rfl, hb1.trans (hb2.mono hb1.size)⟩
theorem limitall_any {w : World} {v v' : Value} {l : List Rg} {len : Nat} {F : Nat → Nat → Int} (h : IsL w v l) (ht : TabIn w 2 v' len F) :
    Calls Try.prog 10 #[v, v'] w fun e w' => e = .returned (.bool true) ∧ Below w.heap.size w w' := by
  obtain ⟨a, cap, rfl, hl, hm, ht⟩ := ht
  rcases ht with rfl | ⟨b, off, rfl, hlt, hF⟩
  · exact limitall_none a cap h
  · exact limitall_some b off cap len F h hl (by unfold maxLen at hm; omega) hlt hF
end Go.Proofs.Ytgdihccmkleimaa.LimitLaw
