/- The walk of the law BootProgram. -/
import Derived.Test.YtgdihccmkleimaaBootProg
namespace Go.Proofs.Ytgdihccmkleimaa.BootLaw
open Go.RowKit
set_option linter.unusedVariables false
set_option linter.unusedSimpArgs false
set_option maxRecDepth 100000 in
set_option maxHeartbeats 1000000 in
theorem boot_law {w : World} {e : Nat} {v : Value} {ps : List Pg} {nm : ByteArray} (he : e < 4294967296) (hby : ∀ i, i < ps.length → Byt (pAt ps i).da) (h : PgS w v ps) : Calls Try.prog 14 #[.agg #[.int .u32 e, v], .string nm] w fun E w' => E = .returned (.bool true) ∧ Below w.heap.size w w' := by
  have h0 := h
  obtain ⟨a, cap, rfl, hl, hcap, hc⟩ := h0
  have hb1 := Go.Joins.below_alloc1 w (.cells #[.int .u32 e, .slice a ps.length cap] 88)
  have hh1 := heap_alloc_new w (.cells #[.int .u32 e, .slice a ps.length cap] 88)
  have hs1 : w.heap.size < (w.alloc (.cells #[.int .u32 e, .slice a ps.length cap] 88)).heap.size := by simp
  have hpr := program_is (nm := nm) (m := 493) he hby (h.keep hb1)
  have HPR := Lib.hid hpr
  have HB1 := Lib.hid hb1
  have HH1 := Lib.hid hh1
  have HS1 := Lib.hid hs1
  have HC := Lib.hid hc
  have HBY := Lib.hid hby
  have HL := Lib.hid hl
  have HP := Lib.hid h
  clear hpr hb1 hh1 hs1 hc hby hl h
  go_enter Try.func14, Try.ntmps14
  go_upto_region 2 with (go_at_call 47; refine HPR.out.mono ?_; rintro eA wA ⟨c, s, k, m', xa, xn, xc, rfl, hbA, hA⟩)
  have hB := (HB1.out.trans (hbA.mono HB1.out.size)).alloc (Nat.le_trans HB1.out.size hbA.size) (.cells #[.string s, .int .i64 k, .int .i64 m', .int .i64 0, .int .i64 0, .slice xa xn xc] 90)
  have hAB := Go.Joins.below_alloc1 wA (.cells #[.string s, .int .i64 k, .int .i64 m', .int .i64 0, .int .i64 0, .slice xa xn xc] 90)
  have hhB := heap_alloc_new wA (.cells #[.string s, .int .i64 k, .int .i64 m', .int .i64 0, .int .i64 0, .slice xa xn xc] 90)
  have hsB : wA.heap.size < (wA.alloc (.cells #[.string s, .int .i64 k, .int .i64 m', .int .i64 0, .int .i64 0, .slice xa xn xc] 90)).heap.size := by simp
  have hsA : w.heap.size < wA.heap.size := Nat.lt_of_lt_of_le HS1.out hbA.size
  have hhA := (hbA.block w.heap.size HS1.out).trans HH1.out
  revert hB hAB hhB hsB
  generalize wA.alloc (.cells #[.string s, .int .i64 k, .int .i64 m', .int .i64 0, .int .i64 0, .slice xa xn xc] 90) = wB
  intro hB hAB hhB hsB
  have hhB0 := (hAB.block w.heap.size hsA).trans hhA
  have x0 : wB.cell? ⟨wA.heap.size, 0, none⟩ = some (.string s) := by rw [cell_of_row _ _ _ _ _ _ hhB]; rfl
  have x1 : wB.cell? ⟨wA.heap.size, 1, none⟩ = some (.int .i64 k) := by rw [cell_of_row _ _ _ _ _ _ hhB]; rfl
  have x2 : wB.cell? ⟨wA.heap.size, 2, none⟩ = some (.int .i64 m') := by rw [cell_of_row _ _ _ _ _ _ hhB]; rfl
  have x5 : wB.cell? ⟨wA.heap.size, 5, none⟩ = some (.slice xa xn xc) := by rw [cell_of_row _ _ _ _ _ _ hhB]; rfl
  have y0 : wB.cell? ⟨w.heap.size, 0, none⟩ = some (.int .u32 e) := by rw [cell_of_row _ _ _ _ _ _ hhB0]; rfl
  have y1 : wB.cell? ⟨w.heap.size, 1, none⟩ = some (.slice a ps.length cap) := by rw [cell_of_row _ _ _ _ _ _ hhB0]; rfl
  have HB := Lib.hid hB
  have HSB := Lib.hid hsB
  have HSA := Lib.hid hsA
  have HAB := Lib.hid hAB
  clear hbA hAB hhB hhA hhB0 hB hsB hsA HH1 HPR
  rcases hA with ⟨hne, rfl, rfl⟩ | ⟨rfl, rfl, rfl, rfl, hR, h512, hbs⟩
  · go_wp2_with fail
    go_ret
    exact ⟨rfl, HB.out⟩
  · have hbsB : BS wB (.slice xa xn xc) (fileR e ps) := hbs.keep HAB.out
    have him := image_is he hR HBY.out h512 hbsB
    have HIM := Lib.hid him
    have HR := Lib.hid hR
    clear him hbsB hbs hR h512
    go_upto_region 5 with (go_at_call 48; refine HIM.out.mono ?_; rintro eC wC ⟨v', B, hBle, rfl, hO, hbC⟩; obtain ⟨va, vc, hv⟩ := hO.slice; rw [trims_length] at hv; subst hv)
    have hCD := Go.Joins.below_alloc1 wC (.cells #[.int .u32 e, .slice va ps.length vc] 88)
    have hhD := heap_alloc_new wC (.cells #[.int .u32 e, .slice va ps.length vc] 88)
    have hsD : wC.heap.size < (wC.alloc (.cells #[.int .u32 e, .slice va ps.length vc] 88)).heap.size := by simp
    revert hCD hhD hsD
    generalize wC.alloc (.cells #[.int .u32 e, .slice va ps.length vc] 88) = wD
    intro hCD hhD hsD
    have hBD : Below wB.heap.size wB wD := hbC.trans (hCD.mono hbC.size)
    have hwB : w.heap.size < wB.heap.size := Nat.lt_trans HSA.out HSB.out
    have hwD : Below w.heap.size w wD := HB.out.trans (hBD.mono HB.out.size)
    have z0 : wD.cell? ⟨wC.heap.size, 0, none⟩ = some (.int .u32 e) := by rw [cell_of_row _ _ _ _ _ _ hhD]; rfl
    have z1 : wD.cell? ⟨wC.heap.size, 1, none⟩ = some (.slice va ps.length vc) := by rw [cell_of_row _ _ _ _ _ _ hhD]; rfl
    have x0' := (hBD.cell (p := ⟨wA.heap.size, 0, none⟩) HSB.out).trans x0
    have x1' := (hBD.cell (p := ⟨wA.heap.size, 1, none⟩) HSB.out).trans x1
    have x2' := (hBD.cell (p := ⟨wA.heap.size, 2, none⟩) HSB.out).trans x2
    have y0' := (hBD.cell (p := ⟨w.heap.size, 0, none⟩) hwB).trans y0
    have y1' := (hBD.cell (p := ⟨w.heap.size, 1, none⟩) hwB).trans y1
    have HWD := Lib.hid hwD
    have HOD := Lib.hid (hO.keep hCD)
    have HWS := Lib.hid (Nat.lt_of_lt_of_le hwB hBD.size)
    clear x0 x1 x2 x5 y0 y1 hCD hhD hsD hBD hwB hwD hO hbC
    have hl64 : (ps.length : Int) ≤ 64 := by have := HR.out.len; omega
    go_wp2_with fail
    go_loopw [71] (fun iv wr => ∃ i : Nat, i ≤ ps.length ∧ iv = .int .i64 i ∧ Hid (Below wD.heap.size wD wr)) (fun iv _ => ps.length - (intOf iv).toNat)
    case atStart => exact ⟨0, Nat.zero_le _, rfl, Lib.hid (Below.refl _ _)⟩
    case round =>
      obtain ⟨i, hi, rfl, HWR⟩ := hrel
      by_cases hil : i < ps.length
      · have hok := HR.out.trims.all i (by rw [trims_length]; exact hil)
        obtain ⟨g, cg, d, hv, hpk⟩ := HOD.out.pick (i := i) (by rw [trims_length]; exact hil) hok.len
        rw [trims_length] at hv
        simp only [Value.slice.injEq] at hv
        obtain ⟨rfl, -, rfl⟩ := hv
        obtain ⟨p0, p1, p2, hbs⟩ := hpk wr none (gb HWR.out) (fun g hg => by cases hg)
        have hps := HP.out.keep (HWD.out.trans (HWR.out.mono HWD.out.size))
        obtain ⟨da, dc, hd, -, -, -⟩ := hbs
        subst hd
        obtain ⟨a', cap', hv, -, -, hq⟩ := hps
        simp only [Value.slice.injEq] at hv
        obtain ⟨rfl, -, rfl⟩ := hv
        rcases hq with hq | ⟨b, off, D, rfl, hblt, hq⟩
        · rw [hq] at hil; exact absurd hil (Nat.not_lt_zero _)
        · obtain ⟨c0, c1, -, -⟩ := hq i hil
          have y1r := (HWR.out.cell (p := ⟨w.heap.size, 1, none⟩) HWS.out).trans y1'
          rw [pAt_trims] at p0 p1 p2
          dsimp only [trimP] at p0 p1 p2
          generalize pAt ps i = p at *
          obtain ⟨pg, rt, dl⟩ := p
          dsimp only at *
          have hdi : (i : Int) < (ps.length : Int) := by omega
          clear hq hpk hok x0' x1' x2' y0' y1' z0 z1
          go_upto_region 10 with fail
          have hRD := Go.Joins.below_alloc1 wr (.cells #[.int .i64 pg, .int .i64 rt, .slice da (trimD dl).length dc] 96)
          have hh := heap_alloc_new wr (.cells #[.int .i64 pg, .int .i64 rt, .slice da (trimD dl).length dc] 96)
          have q0 : (wr.alloc (.cells #[.int .i64 pg, .int .i64 rt, .slice da (trimD dl).length dc] 96)).cell? ⟨wr.heap.size, 0, none⟩ = some (.int .i64 pg) := by rw [cell_of_row _ _ _ _ _ _ hh]; rfl
          have q1 : (wr.alloc (.cells #[.int .i64 pg, .int .i64 rt, .slice da (trimD dl).length dc] 96)).cell? ⟨wr.heap.size, 1, none⟩ = some (.int .i64 rt) := by rw [cell_of_row _ _ _ _ _ _ hh]; rfl
          have y1s := (hRD.cell (p := ⟨w.heap.size, 1, none⟩) (Nat.lt_of_lt_of_le HWS.out HWR.out.size)).trans y1r
          have c0s := (hRD.cell (p := ⟨b, off + i * 3, none⟩) hblt).trans c0
          have c1s := (hRD.cell (p := ⟨b, off + i * 3 + 1, none⟩) hblt).trans c1
          have HRD := Lib.hid (HWR.out.trans (hRD.mono HWR.out.size))
          clear hh y1r c0 c1 hRD p0 p1 p2 hblt
          revert q0 q1 y1s c0s c1s HRD
          generalize wr.alloc (.cells #[.int .i64 pg, .int .i64 rt, .slice da (trimD dl).length dc] 96) = wE
          intro q0 q1 y1s c0s c1s HRD
          go_quiet (fail)
          go_wp2_with fail
          go_roundw
          case rel => exact ⟨i + 1, by omega, by go_num, Lib.hid (below_drewN HRD.out _)⟩
          case measure => simp [intOf]; omega
      · obtain rfl : i = ps.length := by omega
        have HF := Lib.hid (HWD.out.trans (HWR.out.mono HWD.out.size))
        go_wp2_with fail
        go_ret
        exact ⟨rfl, HF.out⟩
end Go.Proofs.Ytgdihccmkleimaa.BootLaw
