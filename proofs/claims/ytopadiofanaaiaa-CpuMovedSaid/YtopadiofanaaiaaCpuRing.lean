/- The walk of ringkeep5.CpuRing. -/
import Derived.Test.YtopadiofanaaiaaCpuSteps
import Derived.Test.YtopadiofanaaiaaCpuLaws
import Derived.Test.YtopadiofanaaiaaCpuEq
import Derived.Test.YtopadiofanaaiaaCommon
namespace Go.Proofs.Ytopadiofanaaiaa.CpuLaw
open Go.RowKit
set_option linter.unusedVariables false
set_option linter.unusedSimpArgs false
attribute [local go_sem ↓] load61_eq store61_eq zero61 cells61
attribute [local go_sem] cellsA_size
/-- the bytes as a function -/
def bytesF (l : List Int) (i : Nat) : Nat := (l.getD i 0).toNat % 256
/-- a room whose bytes are a slice of the call's own -/
theorem room_of {w w3 : World} {b B B0 A : Nat} {v : Value} {l : List Int} {may : Int} (hA : A < 4294967296) (hl : l.length < 9223372036854775808) (hB : ∀ x ∈ l, 0 ≤ x ∧ x ≤ 255) (hbl : b < w3.heap.size) (hne : b < B ∨ w.heap.size ≤ b) (hk : ∀ k, B ≤ k → k < w.heap.size → w3.heap[k]? = w.heap[k]?) (hsz : w.heap.size ≤ w3.heap.size) (c0 : w3.cell? ⟨b, 0, none⟩ = some (.int .u32 A)) (c1 : w3.cell? ⟨b, 1, none⟩ = some v) (c2 : w3.cell? ⟨b, 2, none⟩ = some (.int .i64 may)) (hown : w.ownsRow B0 5 1 v l.length (l.map u8V)) (hB0 : B ≤ B0) (hd : l = [] → ∃ d, d < w.heap.size ∧ B ≤ d) :
    ∃ c, B ≤ c ∧ Room w3 b c ⟨A, l.length, bytesF l, may⟩ := by
  have hf : ∀ i, bytesF l i < 256 := fun i => Nat.mod_lt _ (by decide)
  have hcell : ∀ i, i < l.length → ∀ a : Addr, w3.cell? a = some (u8V (l.getD i 0)) → w3.cell? a = some (.int .u8 (bytesF l i)) := by
    intro i hi a h
    rw [h]
    have := hB (l.getD i 0) (by rw [List.getD_eq_getElem?_getD, List.getElem?_eq_getElem hi]; exact List.getElem_mem hi)
    have e : (bytesF l i : Int) = l.getD i 0 := by unfold bytesF; omega
    rw [e]
  rcases hown.2 with ⟨rfl, hn⟩ | ⟨g, cap', cur, rfl, hb, hg, hnc, hcm, hcs, htake⟩
  · obtain ⟨d, hd1, hd2⟩ := hd (List.eq_nil_of_length_eq_zero hn)
    refine ⟨d, hd2, hbl, by omega, by omega, fun i hi => ?_, hA, hl, hf, c0, ⟨none, 0, by rw [hn]; exact c1, fun h => ?_⟩, c2, fun i hi => ?_⟩
    · have hi : i < l.length := hi
      omega
    · have h : 0 < l.length := h
      omega
    · have hi : i < l.length := hi
      omega
  · have hgl : g < w.heap.size := (Array.getElem?_eq_some_iff.1 hg).1
    have hg3 := (hk g (by omega) hgl).trans hg
    refine ⟨g, by omega, hbl, by omega, by omega, fun i hi => by simp [World.frozen?, hg3], hA, hl, hf, c0, ⟨_, cap', c1, fun _ => rfl⟩, c2, fun i hi => ?_⟩
    have hi : i < l.length := hi
    refine hcell i hi _ ?_
    have h3 : w3.cell? ⟨g, i, none⟩ = w.cell? ⟨g, i, none⟩ := World.cell?_of_block (w := w) (hk g (by omega) hgl)
    refine h3.trans ((hown.cellAt i (by simpa using hi)).trans ?_)
    simp [List.getD, hi]
theorem owns_slice {w : World} {B n : Nat} {v : Value} {l : List Value} (h : w.ownsRow B 5 1 v n l) : ∃ p cap, v = .slice p n cap := by
  rcases h.2 with ⟨rfl, hn⟩ | ⟨g, cap', cur, rfl, _⟩
  · exact ⟨none, 0, by rw [hn]⟩
  · exact ⟨_, cap', rfl⟩
set_option maxRecDepth 100000 in
set_option maxHeartbeats 1000000 in
theorem ring_any {w : World} {g : G} {A : Nat} {s : Value} {xs : List Int} {may n : Int} (hg : Good g) (hA : A < 4294967296) (hs : At (Value.int .u8) 0 w s xs) (hx : ∀ x ∈ xs, 0 ≤ x ∧ x ≤ 255) (hl : xs.length ≤ 140737488351232) :
    Calls Try.prog 9 #[.agg (cellsA g), .agg #[.int .u32 A, s, .int .i64 may], .int .i64 n] w fun e w' => e = .returned (.bool true) ∧ Below w.heap.size w w' := by
  have r0 := (row_new w g).alloc (.cells #[.int .u32 A, s, .int .i64 may] 58)
  have h0 : ((w.alloc (.cells (cellsA g) 61)).alloc (.cells #[.int .u32 A, s, .int .i64 may] 58)).heap[w.heap.size + 1]? = some (.cells #[.int .u32 A, s, .int .i64 may] 58 (0, 0)) := by
    have := heap_alloc_new (w.alloc (.cells (cellsA g) 61)) (.cells #[.int .u32 A, s, .int .i64 may] 58)
    simpa using this
  have b0 : Below w.heap.size w ((w.alloc (.cells (cellsA g) 61)).alloc (.cells #[.int .u32 A, s, .int .i64 may] 58)) := Go.Joins.below_alloc2 _ _ _
  have s0 : ((w.alloc (.cells (cellsA g) 61)).alloc (.cells #[.int .u32 A, s, .int .i64 may] 58)).heap.size = w.heap.size + 2 := by simp
  have HR0 := Lib.hid r0
  have HH0 := Lib.hid h0
  have HB0 := Lib.hid b0
  have HS0 := Lib.hid s0
  have HG := Lib.hid hg
  have HA := Lib.hid hA
  have HS := Lib.hid hs
  have HX := Lib.hid hx
  have HL := Lib.hid hl
  clear r0 h0 b0 s0 hg hA hs hx hl
  go_enter Try.func9, Try.ntmps9
  go_upto_region 1 with fail
  revert HR0 HH0 HB0 HS0
  generalize (w.alloc (.cells (cellsA g) 61)).alloc (.cells #[.int .u32 A, s, .int .i64 may] 58) = W0
  intro HR0 HH0 HB0 HS0
  go_wp2_with fail
  refine (steps_any _).mono ?_
  rintro e w1 ⟨rfl, hb1, hs1⟩
  have HR1 := Lib.hid (HR0.out.keep hb1)
  have hh1 := (hb1.block _ (by rw [HS0.out]; omega)).trans HH0.out
  have c1 : w1.cell? ⟨w.heap.size + 1, 1, none⟩ = some s := by rw [cell_of_row _ _ _ _ _ _ hh1]; rfl
  have HH1 := Lib.hid hh1
  have HB1 := Lib.hid (HB0.out.trans (hb1.mono HB0.out.size))
  have HS1 := Lib.hid (show w.heap.size + 2 < w1.heap.size by rw [← HS0.out]; exact hs1)
  clear hb1 hs1 hh1 HR0 HH0 HB0 HS0
  go_upto_region 3 with fail
  go_wp2_with fail
  refine (cloneB_is (by have := HL.out; omega) (HS.out.keep HB1.out)).mono ?_
  rintro e w2 ⟨v', rfl, hown, hb2⟩
  obtain ⟨p, cap, rfl⟩ := owns_slice hown
  have hh2 := (hb2.block _ (by have := HS1.out; omega)).trans HH1.out
  have hr2 := HR1.out.keep hb2
  have c12 : w2.cell? ⟨w.heap.size + 1, 1, none⟩ = some s := by rw [cell_of_row _ _ _ _ _ _ hh2]; rfl
  have f2 : ∀ i, w2.frozen? ⟨w.heap.size + 1, i, none⟩ = false := fun i => by simp [World.frozen?, hh2]
  have HR2 := Lib.hid hr2
  have HH2 := Lib.hid hh2
  have HO2 := Lib.hid hown
  have HB2 := Lib.hid (HB1.out.trans (hb2.mono HB1.out.size))
  have HS2 := Lib.hid (Nat.lt_of_lt_of_le HS1.out hb2.size)
  clear hh2 hr2 hown hb2 c1 HR1 HH1 HB1 HS
  go_upto_region 4 with fail
  have hbk : ∀ k, k ≠ w.heap.size + 1 → (w2.setCell ⟨w.heap.size + 1, 1, none⟩ (.slice p xs.length cap)).heap[k]? = w2.heap[k]? := fun k hk => Below.heap_setCell _ _ _ _ hk
  have c03 : w2.cell? ⟨w.heap.size + 1, 0, none⟩ = some (.int .u32 A) := by rw [cell_of_row _ _ _ _ _ _ HH2.out]; rfl
  have c23 : w2.cell? ⟨w.heap.size + 1, 2, none⟩ = some (.int .i64 may) := by rw [cell_of_row _ _ _ _ _ _ HH2.out]; rfl
  obtain ⟨c, hcB, hroom⟩ := room_of (w := w2) (w3 := w2.setCell ⟨w.heap.size + 1, 1, none⟩ (.slice p xs.length cap)) (b := w.heap.size + 1) (B := w.heap.size + 2) HA.out (by have := HL.out; omega) HX.out (by have := HS2.out; simp [World.setCell]; omega) (.inl (by omega)) (fun k h1 _ => hbk k (by omega)) (by simp [World.setCell]) (by rw [World.cell?_setCell_other _ _ _ _ (by simp)]; exact c03) (by simp [go_sem, c12]) (by rw [World.cell?_setCell_other _ _ _ _ (by simp)]; exact c23) HO2.out (by have := HS1.out; omega) (fun _ => ⟨_, HS2.out, Nat.le_refl _⟩)
  have hr3 := HR2.out.setO (c := w.heap.size + 1) (i := 1) (by omega) (.slice p xs.length cap)
  have hb3 := HB2.out.setCell (p := ⟨w.heap.size + 1, 1, none⟩) (by show _ ≤ w.heap.size + 1; omega) (.slice p xs.length cap)
  clear hbk c03 c23 c12 f2 HR2 HB2 HH2 HO2 HS1 HS2
  revert hroom hr3 hb3
  generalize w2.setCell ⟨w.heap.size + 1, 1, none⟩ (.slice p xs.length cap) = W3
  intro hroom hr3 hb3
  have d9 := hr3.cring
  have df := hr3.fz
  have HQ3 := Lib.hid hroom
  have HR3 := Lib.hid hr3
  have HB3 := Lib.hid hb3
  clear hroom hr3 hb3
  go_upto_region 5 with fail
  have hq4 := HQ3.out.other (n := w.heap.size) (i := 9) (v := .int .i64 1) (by omega) (by omega)
  have hr4 := HR3.out.setRing 1
  have hb4 := HB3.out.setCell (p := ⟨w.heap.size, 9, none⟩) (Nat.le_refl _) (.int .i64 1)
  clear d9 df HQ3 HR3 HB3
  revert hq4 hr4 hb4
  generalize W3.setCell ⟨w.heap.size, 9, none⟩ (.int .i64 1) = W4
  generalize (⟨A, xs.length, bytesF xs, may⟩ : M) = m
  intro hq4 hr4 hb4
  have HQ4 := Lib.hid hq4
  have HR4 := Lib.hid hr4
  have HB4 := Lib.hid hb4
  have HC := Lib.hid hcB
  clear hq4 hr4 hb4 hcB
  go_wp2_with fail
  refine (within_any n 30 _ (by decide) (by decide)).mono ?_
  rintro e w5 ⟨rfl, rfl⟩
  obtain ⟨z, hz⟩ : ∃ z : Nat, n % 30 = z := ⟨(n % 30).toNat, by omega⟩
  have hz30 : z < 30 := by omega
  rw [hz]
  clear hz
  go_wp2_with fail
  go_loopw [18] (fun iv wr => ∃ (i : Nat) (g' : G) (m' : M), i ≤ z ∧ iv = .int .i64 i ∧ Hid (g'.ring = 1 ∧ Good g' ∧ Row wr w.heap.size g' ∧ Room wr (w.heap.size + 1) c m' ∧ Below w.heap.size w wr)) (fun iv _ => z - (intOf iv).toNat)
  case atStart => exact ⟨0, ⟨g.r, g.pc, 1⟩, m, Nat.zero_le _, rfl, rfl, ⟨HG.out.r, HG.out.pc⟩, HR4.out, HQ4.out, HB4.out⟩
  case round =>
    obtain ⟨i, g', m', hi, rfl, HI⟩ := hrel
    by_cases hiz : i < z
    · have hl := HI.out.2.2.1.load
      go_wp2_with fail
      refine (step_is HI.out.2.2.2.1 HI.out.2.1 (by rw [HI.out.1]; decide)).mono ?_
      rintro e w4 ⟨rfl, ho, hq⟩
      obtain ⟨lt5, lkeep⟩ := stepF_t g' m'
      have lring := (stepF_ring g' m').trans HI.out.1
      have lgood := stepF_good HI.out.2.1 HI.out.2.2.2.1.small
      have lrow := HI.out.2.2.1.keepO ho (by have := HC.out; omega)
      have lb := HI.out.2.2.2.2.trans (ho.low w.heap.size (by have := HC.out; omega) HI.out.2.2.2.2.size)
      clear HI hl
      generalize stepF g' m' = o at *
      obtain ⟨og, ot, oa, om⟩ := o
      dsimp only at lt5 lkeep lring lgood hq
      have hs2 := ((row_new w4 zeroG).alloc (.cells #[.int .i64 0, .int .u32 0] 63)).store og
      have hres := res_new w4 og
      have t0 := hres.T.c0
      have t1 := hres.T.c1
      have tf := hres.T.fz
      have HRS := Lib.hid hres
      have LK := Lib.hid lkeep
      have LG := Lib.hid lgood
      have LR := Lib.hid lring
      have LW := Lib.hid lrow
      have LB := Lib.hid lb
      have LQ := Lib.hid hq
      have L5 := Lib.hid lt5
      clear hres ho hq lkeep lgood lring lrow lb lt5
      go_upto_region 8 with fail
      have hres := HRS.out.out ot oa
      clear t0 t1 tf hs2 HRS
      revert hres
      generalize ((((w4.alloc (.cells (cellsA zeroG) 61)).alloc (.cells #[.int .i64 0, .int .u32 0] 63)).setRow w4.heap.size (cellsA og)).setCell ⟨w4.heap.size + 1, 0, none⟩ (.int .i64 ot)).setCell ⟨w4.heap.size + 1, 1, none⟩ (.int .u32 oa) = W5
      generalize hn2 : w4.heap.size = n2
      intro hres
      have t0 := hres.T.c0
      have c9 := hres.R.cring
      rw [LR.out] at c9
      have l7 := hres.R.load
      have l3r := LW.out.keep hres.B
      have l3 := l3r.load
      have LW5 := Lib.hid l3r
      have LB5 := Lib.hid (LB.out.trans (hres.B.mono LB.out.size))
      have LQ5 := Lib.hid (LQ.out.keep hres.B)
      clear hres hn2 l3r
      have d5 : (ot == 5) = false := by simpa using L5.out
      by_cases h2 : 2 ≤ ot
      · have e := LK.out h2
        subst e
        have d1 : decide (2 ≤ ot) = true := decide_eq_true h2
        have d3 := neq61 og
        go_wp2_with fail
        go_ret
        exact ⟨rfl, LB5.out⟩
      · have d1 : decide (2 ≤ ot) = false := decide_eq_false h2
        have hs3 := LW5.out.store og
        go_wp2_with fail
        go_roundw
        case rel =>
          have hrr := LW5.out.setRow og
          have hqq := LQ5.out.keepO (Off.setRow W5 w.heap.size (cellsA og)) (by omega) (by have := HC.out; omega)
          exact ⟨i + 1, og, om, by omega, by go_num, LR.out, LG.out, hrr, hqq, below_setRow LB5.out (Nat.le_refl _) _⟩
        case measure => simp [intOf]; omega
    · obtain rfl : i = z := by omega
      go_wp2_with fail
      go_ret
      exact ⟨rfl, HI.out.2.2.2.2⟩
end Go.Proofs.Ytopadiofanaaiaa.CpuLaw
