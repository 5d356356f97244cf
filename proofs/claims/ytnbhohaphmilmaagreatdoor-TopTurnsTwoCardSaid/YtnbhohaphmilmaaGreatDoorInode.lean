/- The walk of slices.Equal at bytes that are equal. The walk of snap.Unpack. The walk of check.Load. The walks of package extent at no sectors. The walk of extent.Unpack at zeros. The walks of package inode at the node that is nothing, and at the root. -/
import Derived.Test.YtnbhohaphmilmaaGreatDoorTpA
import Derived.Test.YtnbhohaphmilmaaGreatDoorPack
import Derived.Laws.IdiomStrings
import Derived.BigQuiet
namespace Go.Proofs.YtnbhohaphmilmaaGreatDoor
open Go.RowKit
set_option linter.unusedVariables false
set_option linter.unusedSimpArgs false
theorem At.cellB {w : World} {a : Option Addr} {n cap : Nat} {l : List Int} (h : At (Value.int .u8) 0 w (.slice a n cap) l) : l = [] ∨ ∃ b off, a = some ⟨b, off, none⟩ ∧ b < w.heap.size ∧ ∀ i, i < l.length → w.cell? ⟨b, off + i, none⟩ = some (.int .u8 (l.getD i 0)) := by
  obtain ⟨a', cap', e, _, _, h⟩ := h
  injection e with e1 e2 e3
  rcases h with h | ⟨b, off, h1, h2, h3⟩
  · exact .inl h
  · exact .inr ⟨b, off, by rw [e1, h1], h2, h3⟩
theorem own_cells {w : World} {B n c : Nat} {p : Option Addr} {l : List Int} (ho : w.ownsRow B 5 1 (.slice p n c) n (l.map u8V)) (hl : l.length = n) (h0 : 0 < n) : ∃ b o, p = some ⟨b, o, none⟩ ∧ ∀ j u, (l.map u8V)[j]? = some u → w.cell? ((⟨b, o, none⟩ : Addr).add j) = some u := by
  subst hl
  rcases At.cellB (at_of_owned (f := Value.int .u8) (d := 0) (xs := l) ho) with e | ⟨b, o, e, -, hc⟩
  · rw [e] at h0; simp at h0
  · exact ⟨b, o, e, cells_u8 hc⟩
theorem OB.app' {B n : Nat} {w : World} {v : Value} {l : List Int} (h : OB B w v l) (hB : B ≤ w.heap.size) {a : Addr} {c : Nat} {news : List Int} (hl : news.length = n) (hn : ∀ j u, (news.map u8V)[j]? = some u → w.cell? (a.add j) = some u) (h64 : l.length + n ≤ 1000000) :
    ∃ p c' w', (appB #[v, .slice (some a) n c]).run Tryz.prog w = .ok (.slice p (l.length + n) c') w' ∧ OB B w' (.slice p (l.length + n) c') (l ++ news) ∧ Below B w w' := by
  subst hl
  obtain ⟨p, c', w', h1, h2, -, h3⟩ := h.app hB (c := c) hn h64
  exact ⟨p, c', w', h1, h2, h3⟩
set_option maxRecDepth 100000 in
set_option maxHeartbeats 400000 in
theorem equalB_is {w : World} {v v' : Value} {l : List Int} (h64 : l.length ≤ 1000000) (hv : At (Value.int .u8) 0 w v l) (hv' : At (Value.int .u8) 0 w v' l) : Calls Tryz.prog 62 #[v, v'] w fun e w' => e = .returned (.bool true) ∧ Below w.heap.size w w' := by
  have HV := Lib.hid hv
  have HV' := Lib.hid hv'
  obtain ⟨a, cap, rfl, hl, hcm, -⟩ := hv
  obtain ⟨a', cap', rfl, hl', hcm', -⟩ := hv'
  have HL := Lib.hid h64
  obtain ⟨n, hn⟩ : ∃ n, n = l.length := ⟨_, rfl⟩
  rw [← hn] at h64 hl hl' HV HV' ⊢
  have HN := Lib.hid hn
  have i0 : (n : Int) ≤ 1000000 := by omega
  clear hn h64 hcm hcm' hl hl' HL
  go_enter Tryz.func62, Tryz.ntmps62
  go_wp2_with fail
  go_loopw [13] (fun iv wr => ∃ i, i ≤ n ∧ iv = .int .i64 (i : Nat) ∧ Hid (Below w.heap.size w wr)) (fun iv _ => n - (intOf iv).toNat)
  case atStart => exact ⟨0, Nat.zero_le _, rfl, Lib.hid (Below.refl _ _)⟩
  case round =>
    obtain ⟨i, hi0, rfl, HB⟩ := hrel
    by_cases hi : i < n
    · have j0 : (0 : Int) ≤ i := by omega
      have j1 : (i : Int) < n := by omega
      have HB1 := Lib.hid HB.out.drew
      rcases At.cellB (HV.out.keep HB1.out) with e | ⟨b, o, rfl, hlt, hc⟩
      · have := HN.out; rw [e] at this; simp at this; omega
      rcases At.cellB (HV'.out.keep HB1.out) with e | ⟨b', o', rfl, hlt', hc'⟩
      · have := HN.out; rw [e] at this; simp at this; omega
      have c1 := hc i (by rw [← HN.out]; exact hi)
      have c2 := hc' i (by rw [← HN.out]; exact hi)
      generalize l.getD i 0 = x at *
      clear hc hc' hlt hlt' HB
      go_upto_region 6 with fail
      go_region
      go_wp2_with fail
      go_roundw
      case rel => exact ⟨i + 1, by omega, by go_num, HB1⟩
      case measure => simp [intOf]; omega
    · obtain rfl : i = n := by omega
      go_wp2_with fail
      go_ret
      exact ⟨rfl, HB.out⟩
end Go.Proofs.YtnbhohaphmilmaaGreatDoor
namespace Go.Proofs.YtnbhohaphmilmaaGreatDoor
open Go.RowKit
set_option linter.unusedVariables false
set_option linter.unusedSimpArgs false
/-- what lies there when k trees are told, and i sectors of the next -/
def stU (G : Nat → Nat) (k i : Nat) : Nat → Nat := fun j => if j / 48 < k ∨ (j / 48 = k ∧ j % 48 < i) then G j else 0
theorem stU_zero (G) : stU G 0 0 = fun _ => 0 := by
  funext j
  unfold stU
  rw [if_neg (by omega)]
theorem stU_next (G : Nat → Nat) {k i : Nat} (hi : i < 16) : up (stU G k i) (k * 48 + i) (G (k * 48 + i)) = stU G k (i + 1) := by
  funext j
  unfold up stU
  by_cases e : j = k * 48 + i
  · subst e; rw [if_pos rfl, if_pos (by omega)]
  · rw [if_neg e]
    by_cases h : j / 48 < k ∨ (j / 48 = k ∧ j % 48 < i)
    · rw [if_pos h, if_pos (by omega)]
    · rw [if_neg h, if_neg (by omega)]
theorem stU_tree (G : Nat → Nat) {k : Nat} : ups (stU G k 16) (k * 48 + 16) 32 (fun j => G (k * 48 + 16 + j)) = stU G (k + 1) 0 := by
  funext j
  unfold ups stU
  by_cases h : k * 48 + 16 ≤ j ∧ j < k * 48 + 16 + 32
  · rw [if_pos h, if_pos (by omega)]
    show G (k * 48 + 16 + (j - (k * 48 + 16))) = G j
    congr 1
    omega
  · rw [if_neg h]
    by_cases h2 : j / 48 < k ∨ (j / 48 = k ∧ j % 48 < 16)
    · rw [if_pos h2, if_pos (by omega)]
    · rw [if_neg h2, if_neg (by omega)]
theorem stU_all (G : Nat → Nat) : forA (stU G 4 0) = forA G := forA_ext fun j hj => by unfold stU; rw [if_pos (by omega)]
theorem pkS_nod (G : Nat → Nat) {k i : Nat} (hk : k < 4) (hi : i < 16) : (pkS G 4).getD (k * 16 + i) 0 = ((G (k * 48 + i) : Nat) : Int) := by
  have h1 : k * 16 + i < 64 := by omega
  have e1 : (k * 16 + i) / 16 = k := by omega
  have e2 : (k * 16 + i) % 16 = i := by omega
  unfold pkS pkN
  rw [List.getD_eq_getElem?_getD, List.getElem?_append_left (by simpa using h1), List.getElem?_map, List.getElem?_range h1]
  simp only [Option.map_some, Option.getD_some, e1, e2]
theorem pkS_set (G : Nat → Nat) {k j : Nat} (hk : k < 4) (hj : j < 32) : (pkS G 4).getD (64 + k * 32 + j) 0 = (setL G k).getD j 0 := by
  have h1 : k * 32 + j < 4 * 32 := by omega
  have e1 : (k * 32 + j) / 32 = k := by omega
  have e2 : (k * 32 + j) % 32 = j := by omega
  unfold pkS pkN setL
  rw [List.getD_eq_getElem?_getD, List.getElem?_append_right (by simp; omega), List.getElem?_map]
  simp only [List.length_map, List.length_range]
  rw [show 64 + k * 32 + j - 64 = k * 32 + j by omega, List.getElem?_range h1, List.getD_eq_getElem?_getD, List.getElem?_map, List.getElem?_range hj]
  simp only [Option.map_some, Option.getD_some, e1, e2]
theorem setL_setA (G : Nat → Nat) (k : Nat) : (setL G k).map u8V = (setA (fun j => G (k * 48 + 16 + j))).toList := by
  apply List.ext_getElem?
  intro i
  by_cases hi : i < 32
  · rw [Array.getElem?_toList (xs := setA _), setA_get _ hi]
    simp [setL, hi]
  · rw [Array.getElem?_toList (xs := setA _), Array.getElem?_eq_none (by rw [setA_size]; omega), List.getElem?_eq_none (by simp [setL_len]; omega)]
/-- a set's bytes are copied into a forest -/
theorem run_copyF {w : World} {g k sL sC sb so : Nat} {G H : Nat → Nat} (hk : k < 4) (hg : Row w g 148 (forA G)) (hs : ∀ i, i < 32 → w.cell? ⟨sb, so + i, none⟩ = some (.int .u8 ((setL H k).getD i 0))) (hL : 32 ≤ sL) :
    (copyB #[.slice (some ⟨g, k * 48 + 16, none⟩) 32 32, .slice (some ⟨sb, so, none⟩) sL sC]).run Tryz.prog w = .ok (.int .i64 32) (w.setRow g (forA (ups G (k * 48 + 16) 32 (fun j => H (k * 48 + 16 + j))))) := by
  have hl : ((setL H k).map u8V).length = 32 := by simp [setL_len]
  have h := run_copy_row (P := Tryz.prog) w 54 54 3 5 g (k * 48 + 16) 32 32 ⟨sb, so, none⟩ sL sC (forA G) 148 ((setL H k).map u8V) Tryz.underlying54 (by kernel_rfl) hg (by rw [hl]; exact (Nat.min_eq_right hL).symm) (cells_u8 (by rw [setL_len]; exact hs)) (by rw [hl, forA_size]; omega) (u8V_one _)
  have e := forA_put G (fun j => H (k * 48 + 16 + j)) hk
  unfold putA at e
  rw [← setL_setA, hl] at e
  rw [hl, e] at h
  rw [← copyB_eq, h]
  simp [goInt]
attribute [local go_sem ↓] ld_set st_set ld_for st_for ld_tre ld_nod ix_nod copyB_eq
set_option maxRecDepth 100000 in
set_option maxHeartbeats 1000000 in
theorem sunpack_is {w : World} {v : Value} {G : Nat → Nat} (hG : FR G) (hG8 : ∀ j, G j < 256) (hv : At (Value.int .u8) 0 w v (pkS G 4)) : Calls Tryz.prog 119 #[v] w fun e w' => e = .returned (.tuple #[.agg (forA G), .int .i64 0]) ∧ Below w.heap.size w w' := by
  have HG := Lib.hid hG
  have HG8 := Lib.hid hG8
  have HV := Lib.hid hv
  obtain ⟨a, cap, rfl, hl, hcm, -⟩ := hv
  have hlen : (pkS G 4).length = 192 := by rw [pkS_len]
  rw [hlen] at hl HV ⊢
  rcases At.cellB HV.out with e | ⟨b, o, rfl, hlt, hc⟩
  · rw [e] at hlen; cases hlen
  have HC := Lib.hid hc
  have HLT := Lib.hid hlt
  have HLEN := Lib.hid hlen
  clear hc hlt hG hG8 hlen hcm
  have hz : Tryz.zeroCells148 = forA (fun _ => 0) := by kernel_rfl
  go_enter Tryz.func119, Tryz.ntmps119
  go_upto_region 4 with fail
  have HR0 : Hid (Row ((w.alloc (.cells (forA (fun _ => 0)) 148)).alloc (.cells (forA (fun _ => 0)) 148)) w.heap.size 148 (forA (fun _ => 0))) := Lib.hid ((row_new w _ _).alloc _)
  have HR1 : Hid (Row ((w.alloc (.cells (forA (fun _ => 0)) 148)).alloc (.cells (forA (fun _ => 0)) 148)) (w.heap.size + 1) 148 (forA (stU G 0 0))) := Lib.hid (by
    rw [stU_zero]
    have := row_new (w.alloc (.cells (forA (fun _ => 0)) 148)) 148 (forA (fun _ => 0))
    simpa using this)
  have HB1 : Hid (Below w.heap.size w ((w.alloc (.cells (forA (fun _ => 0)) 148)).alloc (.cells (forA (fun _ => 0)) 148))) := Lib.hid (((Below.refl _ _).alloc (Nat.le_refl _) _).alloc (by simp) _)
  generalize (w.alloc (.cells (forA (fun _ => 0)) 148)).alloc (.cells (forA (fun _ => 0)) 148) = w1 at *
  clear hz
  go_wp2_with fail
  go_loopw [13] (fun kv wr => ∃ k, k ≤ 4 ∧ kv = .int .i64 (k : Nat) ∧ Hid (Below w.heap.size w wr) ∧ Hid (Row wr w.heap.size 148 (forA (fun _ => 0))) ∧ Hid (Row wr (w.heap.size + 1) 148 (forA (stU G k 0)))) (fun kv _ => 4 - (intOf kv).toNat)
  case atStart => exact ⟨0, by omega, rfl, HB1, HR0, HR1⟩
  case round =>
    clear HB1 HR0 HR1
    obtain ⟨k, hk0, rfl, HB, HRA, HRB⟩ := hrel
    by_cases hk : k < 4
    · have i0 : (0 : Int) ≤ k := by omega
      have i1 : (k : Int) < 4 := by omega
      go_wp2_with fail
      go_loopw [16] (fun iv wr => ∃ i, i ≤ 16 ∧ iv = .int .i64 (i : Nat) ∧ Hid (Below w.heap.size w wr) ∧ Hid (Row wr w.heap.size 148 (forA (fun _ => 0))) ∧ Hid (Row wr (w.heap.size + 1) 148 (forA (stU G k i)))) (fun iv _ => 16 - (intOf iv).toNat)
      case atStart => exact ⟨0, by omega, rfl, HB, HRA, HRB⟩
      case round =>
        clear HB HRA HRB
        obtain ⟨i, hi0, rfl, HB, HRA, HRB⟩ := hrel
        by_cases hi : i < 16
        · have j0 : (0 : Int) ≤ i := by omega
          have j1 : (i : Int) < 16 := by omega
          have c1 : wr.cell? ⟨b, o + (16 * k + i), none⟩ = some (.int .u8 (G (k * 48 + i))) := by
            rw [show 16 * k = k * 16 by omega, HB.out.cell (p := ⟨b, o + (k * 16 + i), none⟩) HLT.out, HC.out _ (by rw [HLEN.out]; omega), pkS_nod G hk hi]
          have hcB := HRB.out.cell (k * 48 + i)
          rw [forA_get _ (by omega), fV_lo hi] at hcB
          have hfB := HRB.out.fz (k * 48 + i)
          have HRC : Hid (Row (wr.setCell ⟨w.heap.size + 1, k * 48 + i, none⟩ (.int .i64 (G (k * 48 + i)))) (w.heap.size + 1) 148 (forA (stU G k (i + 1)))) := Lib.hid (by
            rw [HRB.out.setCell]
            have := forA_up (stU G k i) (j := k * 48 + i) (x := G (k * 48 + i)) (by omega)
            rw [fV_lo hi, stU_next G hi] at this
            rw [this]
            exact HRB.out.setRow _)
          have HRAC : Hid (Row (wr.setCell ⟨w.heap.size + 1, k * 48 + i, none⟩ (.int .i64 (G (k * 48 + i)))) w.heap.size 148 (forA (fun _ => 0))) := Lib.hid (HRA.out.upd (Upd.set wr _ (S := fun k => k = w.heap.size + 1) rfl) (by omega))
          have HBC := Lib.hid (HB.out.setCell (p := ⟨w.heap.size + 1, k * 48 + i, none⟩) (Nat.le_succ _) (.int .i64 (G (k * 48 + i))))
          have hg := HG8.out (k * 48 + i)
          generalize G (k * 48 + i) = g at *
          have y1 : IntKind.i64.wrap (g : Int) = g := IntWalk.i64_in _ (by omega)
          have y2 : IntKind.i64.wrap ((k : Int) * 16 + i) = (k : Int) * 16 + i := IntWalk.i64_in _ (by omega)
          clear hg
          go_upto_region 10 with fail
          go_region
          go_wp2_with fail
          go_roundw
          case rel => exact ⟨i + 1, by omega, by go_num, Lib.hid HBC.out.drew, HRAC, HRC⟩
          case measure => simp [intOf]; omega
        · obtain rfl : i = 16 := by omega
          have hsrc : ∀ i, i < 32 → wr.drew.cell? ⟨b, o + (64 + 32 * k) + i, none⟩ = some (.int .u8 ((setL G k).getD i 0)) := fun i hi => by
            have := HB.out.drew.cell (p := ⟨b, o + (64 + 32 * k) + i, none⟩) HLT.out
            rw [this, show o + (64 + 32 * k) + i = o + (64 + k * 32 + i) by omega, HC.out _ (by rw [HLEN.out]; omega), pkS_set G hk hi]
          have hcp := run_copyF (sL := 192 - (64 + 32 * k)) (sC := cap - (64 + 32 * k)) (G := stU G k 16) hk HRB.out.drew hsrc (by omega)
          rw [stU_tree] at hcp
          have HRC := Lib.hid (HRB.out.drew.setRow (forA (stU G (k + 1) 0)))
          have HRAC := Lib.hid (HRA.out.drew.upd (Upd.setRow wr.drew (forA (stU G (k + 1) 0)) (S := fun k => k = w.heap.size + 1) rfl) (by omega))
          have HBC := Lib.hid (HB.out.drew.trans (Upd.toBelow (Upd.setRow wr.drew (forA (stU G (k + 1) 0)) (S := fun k => k = w.heap.size + 1) rfl) (by exact HB.out.size) (by omega)))
          generalize wr.drew.setRow (w.heap.size + 1) (forA (stU G (k + 1) 0)) = w9 at *
          have y2 : IntKind.i64.wrap (32 * (k : Int)) = 32 * (k : Int) := IntWalk.i64_in _ (by omega)
          have y3 : IntKind.i64.wrap (64 + 32 * (k : Int)) = 64 + 32 * (k : Int) := IntWalk.i64_in _ (by omega)
          have y4 : ¬ cap = 64 + 32 * k := by omega
          clear hsrc
          go_upto_region 12 with fail
          go_region
          go_wp2_with fail
          go_roundw
          case rel => exact ⟨k + 1, by omega, by go_num, HBC, HRAC, HRC⟩
          case measure => simp [intOf]; omega
    · obtain rfl : k = 4 := by omega
      have HA := Lib.hid (forA_size G)
      have HO1 := Lib.hid (forA_one G)
      have hrb := HRB.out
      rw [stU_all] at hrb
      have HP := Lib.hid (pack_is wr HG.out)
      have HPL := Lib.hid (show (pkS G 4).length ≤ 1000000 by rw [pkS_len]; decide)
      have HZ := Lib.hid (forA_size (fun _ => 0))
      generalize forA (fun _ => 0) = Z at *
      generalize hAE : forA G = A at *
      have HAE := Lib.hid hAE
      clear hAE
      have HRB1 := Lib.hid hrb
      have l1 := hrb.ld0 Tryz.underlying148 rfl (by rw [HA.out]; kernel_rfl)
      clear HRB hrb
      go_upto_region 15 with (go_at_call 57; refine HP.out.mono ?_; rintro e5 w5 ⟨v5, rfl, ho5, hb5⟩)
      have HB5 := Lib.hid (HB.out.trans (hb5.mono HB.out.size))
      have HR5 := Lib.hid (HRB1.out.keep hb5)
      have HR05 := Lib.hid (HRA.out.keep hb5)
      have HV5 := Lib.hid ((HV.out.keep HB.out).keep hb5)
      have HEQ := Lib.hid (equalB_is HPL.out ho5.at HV5.out)
      clear HP ho5 hb5 l1 HB HRB1 HRA
      go_upto_region 17 with (go_at_call 62; refine HEQ.out.mono ?_; rintro e6 w6 ⟨rfl, hb6⟩)
      have HB6 := Lib.hid (HB5.out.trans (hb6.mono HB5.out.size))
      have HR6 := HR5.out.keep hb6
      have HR06 := HR05.out.keep hb6
      have l6 := HR6.ld0 Tryz.underlying148 rfl (by rw [HA.out]; kernel_rfl)
      have s6 := HR06.st0 (cs := A) (by rw [HA.out, HZ.out]) (by rw [HA.out]; kernel_rfl) HO1.out
      have l7 := (HR06.setRow A).ldV Tryz.underlying148 rfl (by rw [HA.out]; kernel_rfl)
      have HB7 := Lib.hid (HB6.out.trans (Upd.toBelow (Upd.setRow w6 A (b := w.heap.size) (S := fun k => k = w.heap.size) rfl) HB6.out.size (by omega)))
      generalize w6.setRow w.heap.size A = w7 at *
      clear HR6 HR06 hb6 HEQ HB5 HR5 HR05
      go_wp2_with fail
      exact bodyPost_ret (v := .tuple #[.agg A, .int .i64 0]) (by rw [results_cell_tmp rfl]; simp [asAddr, Result.andThen, l7]) rfl ⟨by rw [HAE.out], HB7.out⟩
end Go.Proofs.YtnbhohaphmilmaaGreatDoor
namespace Go.Proofs.YtnbhohaphmilmaaGreatDoor
open Go.RowKit
set_option linter.unusedVariables false
set_option linter.unusedSimpArgs false
theorem method_read (v : Value) (w : World) : (method 671 47 v "Read").run Tryz.prog w = .ok (61, v) w := by kernel_rfl
theorem method_size (v : Value) (w : World) : (method 671 47 v "Size").run Tryz.prog w = .ok (54, v) w := by kernel_rfl
/-- the first k sectors behind the first -/
def catS (f : List Int) : Nat → List Int
  | 0 => []
  | k + 1 => catS f k ++ sect f (1 + k)
theorem catS_len {f : List Int} (hf : f.length = 64 * 64) : ∀ k, k < 4 → (catS f k).length = k * 64
  | 0, _ => rfl
  | k + 1, h => by rw [catS, List.length_append, catS_len hf k (by omega), sect_len (S := 64) hf (by omega)]; omega
/-- a forest that a disk may have -/
structure FL (G : Nat → Nat) : Prop where
  r : FR G
  lt : ∀ j, G j < 256
  t0 : G 0 ≠ 0
  nd : ∀ k i, k < 4 → i < 16 → G (k * 48) ≠ 0 → 37 ≤ G (k * 48 + i) ∧ G (k * 48 + i) < 64
attribute [local go_sem ↓] ld_set st_set ld_for st_for ld_tre ld_nod ix_nod appB_eq
section
variable {w w' : World} {D sb nb m : Nat} {wv : Value} {s f : List Int} {G : Nat → Nat}
set_option maxRecDepth 100000 in
set_option maxHeartbeats 1000000 in
theorem cload_is (h : Dk w D sb nb wv m 64 s f) (hG : FL G) (hf : catS f 3 = pkS G 4) : Calls Tryz.prog 64 #[.iface 47 (.pointer (some ⟨D, 0, none⟩))] w fun e w' => e = .returned (.tuple #[.agg (forA G), .int .i64 0]) ∧ Below w.heap.size w w' := by
  have hmr := method_read
  have hmz := method_size
  have HD := Lib.hid h
  have HG := Lib.hid hG
  have HF := Lib.hid hf
  have hz : Tryz.zeroCells148 = forA (fun _ => 0) := by kernel_rfl
  clear h hG hf
  go_enter Tryz.func64, Tryz.ntmps64
  go_upto_region 1 with fail
  have HR0 : Hid (Row (w.alloc (.cells (forA (fun _ => 0)) 148)) w.heap.size 148 (forA (fun _ => 0))) := Lib.hid (row_new w _ _)
  have HB0 := Lib.hid (Go.Joins.below_alloc1 w (.cells (forA (fun _ => 0)) 148))
  have HZ0 : Hid ((w.alloc (.cells (forA (fun _ => 0)) 148)).heap.size = w.heap.size + 1) := Lib.hid (by simp)
  have HD0 := Lib.hid (HD.out.keep HB0.out)
  generalize w.alloc (.cells (forA (fun _ => 0)) 148) = w0 at *
  clear HD
  go_wp2_with fail
  go_loopw [4, 13] (fun ov kv wr => ∃ k v, k ≤ 3 ∧ v = ov ∧ kv = .int .i64 (k : Nat) ∧ Hid (Below w0.heap.size w0 wr) ∧ Hid (OB w0.heap.size wr v (catS f k))) (fun ov kv _ => 3 - (intOf kv).toNat)
  case atStart => exact ⟨0, _, by omega, rfl, rfl, Lib.hid (Below.refl _ _), Lib.hid (OB.nil _ _)⟩
  case round =>
    obtain ⟨k, v, hk0, rfl, rfl, HB, HO⟩ := hrel
    by_cases hk : k < 3
    · have i0 : (0 : Int) ≤ k := by omega
      have i1 : (k : Int) < 3 := by omega
      have HRD := Lib.hid (read_is (HD0.out.keep HB.out) (k := 1 + k) (by omega))
      have HSL := Lib.hid (sect_len HD0.out.lf (k := 1 + k) (by omega))
      rw [show ((1 + k : Nat) : Int) = 1 + (k : Int) by omega] at HRD
      have HCL := Lib.hid (catS_len HD0.out.lf k (by omega))
      go_upto_region 6 with (go_at_call 61; refine HRD.out.mono ?_; rintro e5 w5 ⟨v5, rfl, ho5, hb5⟩)
      obtain ⟨p5, c5, rfl⟩ := own_form ho5
      obtain ⟨b, o, rfl, hc⟩ := own_cells ho5 HSL.out (by decide)
      have HB5 := Lib.hid (HB.out.trans (hb5.mono HB.out.size))
      obtain ⟨p6, c6, w6, hap, ho6, hb6⟩ := (HO.out.keep hb5).app' HB5.out.size (c := c5) HSL.out hc (by rw [HCL.out]; omega)
      have ho6 : OB w0.heap.size w6 _ (catS f (k + 1)) := ho6
      have HO6 := Lib.hid ho6
      have HB6 := Lib.hid (HB5.out.trans hb6)
      clear ho6 hb6 ho5 hb5 hc HRD
      go_wp2_with fail
      go_roundw
      case rel => exact ⟨k + 1, _, by omega, rfl, by go_num, HB6, HO6⟩
      case measure => simp [intOf]; omega
    · obtain rfl : k = 3 := by omega
      have HAT : Hid (At (Value.int .u8) 0 wr v (pkS G 4)) := Lib.hid (by rw [← HF.out]; exact HO.out.at)
      have HSU := Lib.hid (sunpack_is HG.out.r HG.out.lt HAT.out)
      have HA := Lib.hid (forA_size G)
      have HO1 := Lib.hid (forA_one G)
      have HZS := Lib.hid (forA_size (fun _ => 0))
      have HD1 := Lib.hid (HD0.out.keep HB.out)
      have HR1 := Lib.hid (HR0.out.keepB HB.out (by rw [HZ0.out]; omega))
      have HB1 := Lib.hid (HB0.out.trans (HB.out.mono HB0.out.size))
      obtain ⟨A, hA⟩ : ∃ A, A = forA G := ⟨_, rfl⟩
      obtain ⟨Z, hZ⟩ : ∃ Z, Z = forA (fun _ => 0) := ⟨_, rfl⟩
      rw [← hA] at HSU HA HO1
      rw [← hZ] at hz HZS HR1
      have HAE := Lib.hid hA
      clear hA hZ HO HAT HD0 HR0 HB0 HB HZ0
      go_upto_region 11 with (go_at_call 119; refine HSU.out.mono ?_; rintro e5 w5 ⟨rfl, hb5⟩; have st5 := st0_new w5 (T := 148) (c := Z) (cs := A) (by rw [HA.out, HZS.out]) (by rw [HA.out]; kernel_rfl) HO1.out)
      have HR5 := Lib.hid (row_new w5 148 A)
      have hal := Go.Joins.below_alloc1 w5 (.cells A 148)
      have HD5 := Lib.hid ((HD1.out.keep hb5).keep hal)
      have HR05 := Lib.hid ((HR1.out.keep hb5).keep hal)
      have HB5 := Lib.hid (HB1.out.trans ((hb5.trans (hal.mono hb5.size)).mono HB1.out.size))
      have HL5 : Hid (w.heap.size < w5.heap.size) := Lib.hid (Nat.lt_of_lt_of_le HR1.out.lt hb5.size)
      clear st5 hal hb5 HSU HD1 HR1 HB1
      generalize w5.alloc (.cells A 148) = w6 at *
      have l6 := HR5.out.ld0 Tryz.underlying148 rfl (by rw [HA.out]; kernel_rfl)
      have HT := Lib.hid (there_is w6 (G := G) (k := 0) (by decide) (b := true) (by
        have := HG.out.t0
        simp [this]))
      rw [← HAE.out] at HT
      go_upto_region 13 with (go_at_call 120; refine HT.out.mono ?_; rintro e7 w7 ⟨rfl, hb7⟩)
      have HD7 := Lib.hid (HD5.out.keep hb7)
      have HR7 := Lib.hid (HR5.out.keep hb7)
      have HR07 := Lib.hid (HR05.out.keep hb7)
      have HB7 := Lib.hid (HB5.out.trans (hb7.mono HB5.out.size))
      clear HT l6 HD5 HR5 HR05 HB5 hb7
      go_wp2_with fail
      go_loopw [43] (fun kv wr => ∃ k, k ≤ 4 ∧ kv = .int .i64 (k : Nat) ∧ Hid (Below w7.heap.size w7 wr)) (fun kv _ => 4 - (intOf kv).toNat)
      case atStart => exact ⟨0, by omega, rfl, Lib.hid (Below.refl _ _)⟩
      case round =>
        obtain ⟨k, hk0, rfl, HB⟩ := hrel
        by_cases hk : k < 4
        · have i0 : (0 : Int) ≤ k := by omega
          have i1 : (k : Int) < 4 := by omega
          have HR := Lib.hid (HR7.out.keep HB.out)
          have l1 : (ldR 74 (.pointer (some ⟨w5.heap.size, k * 48, none⟩))).run Tryz.prog wr = .ok (.agg (nodA (fun j => G (k * 48 + j)))) wr := by
            rw [HR.out.ld (o := k * 48) (n := 16) (by rw [HA.out]; omega) Tryz.underlying74 rfl (by kernel_rfl), HAE.out, forA_nod G hk]
          have HIX := Lib.hid (show ∀ (w : World) (i : Nat), i < 16 → (ixR 74 (.agg (nodA (fun j => G (k * 48 + j)))) (.int .i64 i)).run Tryz.prog w = .ok (.int .i64 (G (k * 48 + i))) w from fun w i hi => ix_is w (fun j => G (k * 48 + j)) hi)
          generalize nodA (fun j => G (k * 48 + j)) = N at *
          go_wp2_with fail
          clear l1 HR
          go_loopw [50] (fun iv wr => ∃ i, i ≤ 16 ∧ iv = .int .i64 (i : Nat) ∧ Hid (Below w7.heap.size w7 wr)) (fun iv _ => 16 - (intOf iv).toNat)
          case atStart => exact ⟨0, by omega, rfl, HB⟩
          case round =>
            clear HB
            obtain ⟨i, hi0, rfl, HB⟩ := hrel
            by_cases hi : i < 16
            · have j0 : (0 : Int) ≤ i := by omega
              have j1 : (i : Int) < 16 := by omega
              have hx := HIX.out wr i hi
              have hlt := HG.out.lt (k * 48 + i)
              have HR := Lib.hid (HR7.out.keep HB.out)
              have l2 := HR.out.ld0 Tryz.underlying148 rfl (by rw [HA.out]; kernel_rfl)
              by_cases hz0 : G (k * 48) = 0
              · have HT := Lib.hid (there_is wr (G := G) hk (b := false) (by rw [hz0]; rfl))
                rw [← HAE.out] at HT
                generalize G (k * 48 + i) = g at *
                clear hz0 hlt
                go_upto_region 20 with (go_at_call 120; refine HT.out.mono ?_; rintro e8 w8 ⟨rfl, hb8⟩)
                exact ⟨⟨i + 1, by omega, by go_num, Lib.hid (HB.out.trans (hb8.mono HB.out.size))⟩, by simp [intOf]; omega⟩
              · have HT := Lib.hid (there_is wr (G := G) hk (b := true) (by rw [beq_eq_false_iff_ne.2 hz0]; rfl))
                rw [← HAE.out] at HT
                have hnd := HG.out.nd k i hk hi hz0
                generalize G (k * 48 + i) = g at *
                have g0 : ¬ (g : Int) < 37 := by omega
                have g1 : ¬ (64 : Int) ≤ g := by omega
                clear hz0 hlt hnd
                go_upto_region 20 with (first | (go_at_call 120; refine HT.out.mono ?_; rintro e8 w8 ⟨rfl, hb8⟩; have HB8 := Lib.hid (HB.out.trans (hb8.mono HB.out.size)); have HSZ := Lib.hid (size_is (HD7.out.keep HB8.out)); clear hb8) | (go_at_call 54; refine HSZ.out.mono ?_; rintro e9 w9 ⟨rfl, rfl⟩))
                exact ⟨⟨i + 1, by omega, by go_num, HB8⟩, by simp [intOf]; omega⟩
            · obtain rfl : i = 16 := by omega
              go_wp2_with fail
              go_roundw
              case rel => exact ⟨k + 1, by omega, by go_num, HB⟩
              case measure => simp [intOf]; omega
        · obtain rfl : k = 4 := by omega
          have hr := HR7.out.keep HB.out
          have hr0 := HR07.out.keep HB.out
          have l1 := hr.ld0 Tryz.underlying148 rfl (by rw [HA.out]; kernel_rfl)
          have s6 := hr0.st0 (cs := A) (by rw [HA.out, HZS.out]) (by rw [HA.out]; kernel_rfl) HO1.out
          have l7 := (hr0.setRow A).ldV Tryz.underlying148 rfl (by rw [HA.out]; kernel_rfl)
          have hb9 := HB7.out.trans (HB.out.mono HB7.out.size)
          have HB9 := Lib.hid (hb9.trans (Upd.toBelow (Upd.setRow wr A (b := w.heap.size) (S := fun k => k = w.heap.size) rfl) hb9.size (by omega)))
          generalize wr.setRow w.heap.size A = w9 at *
          clear hr hr0 hb9
          go_wp2_with fail
          exact bodyPost_ret (v := .tuple #[.agg A, .int .i64 0]) (by rw [results_cell_tmp rfl]; simp [asAddr, Result.andThen, l7]) rfl ⟨by rw [HAE.out], HB9.out⟩
end
end Go.Proofs.YtnbhohaphmilmaaGreatDoor
namespace Go.Proofs.YtnbhohaphmilmaaGreatDoor
open Go.RowKit
set_option linter.unusedVariables false
set_option linter.unusedSimpArgs false
attribute [local go_sem ↓] mkB_eq
set_option maxRecDepth 100000 in
set_option maxHeartbeats 400000 in
theorem xright_is (w : World) : Calls Tryz.prog 194 #[.slice none 0 0] w fun e w' => e = .returned (.int .i64 0) ∧ w = w' := by
  go_enter Tryz.func194, Tryz.ntmps194
  go_wp2_with fail
  refine wp_loop_rounds 1 ?_
  rw [rounds_succ]
  go_wp2_with fail
  go_ret
  exact ⟨rfl, rfl⟩
set_option maxRecDepth 100000 in
set_option maxHeartbeats 400000 in
theorem xof_is (w : World) : Calls Tryz.prog 195 #[.slice none 0 0] w fun e w' => e = .returned (.tuple #[.slice none 0 0, .int .i64 0]) ∧ w = w' := by
  have HR := Lib.hid (xright_is w)
  go_enter Tryz.func195, Tryz.ntmps195
  go_wp2_with (go_at_call 194; refine HR.out.mono ?_; rintro e1 w1 ⟨rfl, rfl⟩)
  refine wp_loop_rounds 1 ?_
  rw [rounds_succ]
  go_wp2_with fail
  go_ret2
  exact ⟨rfl, rfl⟩
set_option maxRecDepth 100000 in
set_option maxHeartbeats 400000 in
theorem xpoints_is (w : World) : Calls Tryz.prog 270 #[.slice none 0 0] w fun e w' => e = .returned (.tuple #[.slice none 0 0, .int .i64 0]) ∧ w = w' := by
  go_enter Tryz.func270, Tryz.ntmps270
  go_wp2_with fail
  refine wp_loop_rounds 1 ?_
  rw [rounds_succ]
  go_wp2_with fail
  go_ret2
  exact ⟨rfl, rfl⟩
set_option maxRecDepth 100000 in
set_option maxHeartbeats 400000 in
theorem xpack_is (w : World) : Calls Tryz.prog 117 #[.slice none 0 0] w fun e w' => e = .returned (.tuple #[.slice (some ⟨w.heap.size, 0, none⟩) 16 16, .int .i64 0]) ∧ w' = w.alloc (.cells ((zeros 16).map u8V).toArray 5) := by
  have HO := Lib.hid (xof_is w)
  have hmk := mkB16 w
  generalize w.alloc (.cells ((zeros 16).map u8V).toArray 5) = w9 at *
  go_enter Tryz.func117, Tryz.ntmps117
  go_wp2_with (go_at_call 195; refine HO.out.mono ?_; rintro e1 w1 ⟨rfl, rfl⟩)
  refine wp_loop_rounds 1 ?_
  rw [rounds_succ]
  go_wp2_with fail
  go_ret2
  exact ⟨rfl, rfl⟩
set_option maxRecDepth 100000 in
set_option maxHeartbeats 400000 in
theorem blocks0_is (w : World) : Calls Tryz.prog 137 #[.int .i64 0] w fun e w' => e = .returned (.int .i64 0) ∧ w = w' := by
  go_enter Tryz.func137, Tryz.ntmps137
  go_wp2_with fail
  go_ret
  exact ⟨rfl, rfl⟩
end Go.Proofs.YtnbhohaphmilmaaGreatDoor
namespace Go.Proofs.YtnbhohaphmilmaaGreatDoor
open Go.RowKit
set_option linter.unusedVariables false
set_option linter.unusedSimpArgs false
def zstr : ByteArray := ⟨(List.replicate 16 (0 : UInt8)).toArray⟩
theorem zeros_get (n j : Nat) : (zeros n).getD j 0 = 0 := by
  unfold zeros
  rw [List.getD_eq_getElem?_getD, List.getElem?_replicate]
  split <;> rfl
theorem conv0 {w : World} {a : Option Addr} {cap : Nat} (h : At (Value.int .u8) 0 w (.slice a 16 cap) (zeros 16)) : (convert 54 9 (.slice a 16 cap)).run Tryz.prog w = .ok (.string zstr) w := by
  rcases At.cellB h with e | ⟨b, o, rfl, -, hc⟩
  · cases e
  · refine run_convert_bytes_back w 54 9 5 ⟨b, o, none⟩ cap (List.replicate 16 (0 : UInt8)) Tryz.underlying54 Tryz.underlying5 Tryz.underlying9 fun j hj => ?_
    have hj' : j < 16 := by simpa using hj
    rw [Addr.add_lit, hc j (by simpa [zeros_len] using hj')]
    have e1 : (zeros 16).getD j 0 = 0 := zeros_get 16 j
    have e2 : ∀ (n : Nat) (hj : j < (List.replicate n (0 : UInt8)).length), (List.replicate n (0 : UInt8))[j] = 0 := fun n hj => List.getElem_replicate hj
    rw [e1, e2 16 hj]
    rfl
set_option maxRecDepth 100000 in
set_option maxHeartbeats 400000 in
theorem xunpack_is {w : World} {v : Value} (hv : At (Value.int .u8) 0 w v (zeros 16)) : Calls Tryz.prog 198 #[v] w fun e w' => e = .returned (.tuple #[.slice none 0 0, .int .i64 0]) ∧ Below w.heap.size w w' := by
  have hat := hv
  obtain ⟨a, cap, rfl, hl, hcm, -⟩ := hv
  rw [zeros_len] at hl hat ⊢
  rcases At.cellB hat with e | ⟨b, o, rfl, hlt, hc⟩
  · cases e
  have c1 : w.cell? ⟨b, o + 1, none⟩ = some (.int .u8 0) := hc 1 (by decide)
  have hal := Go.Joins.below_alloc1 w (.cells ((zeros 16).map u8V).toArray 5)
  have k1 := conv0 (hat.keep hal)
  have k2 := conv0 (at_new w (zeros 16) 5 (by decide))
  rw [zeros_len] at k2
  have HB := Lib.hid hal
  have HP := Lib.hid (xpoints_is w)
  have HK := Lib.hid (xpack_is w)
  generalize w.alloc (.cells ((zeros 16).map u8V).toArray 5) = w1 at *
  generalize zstr = S at *
  clear hat hc hal hlt hl hcm
  go_enter Tryz.func198, Tryz.ntmps198
  go_wp2_with fail
  refine wp_loop_rounds 1 ?_
  rw [rounds_succ]
  go_wp2_with (first | (go_at_call 270; refine HP.out.mono ?_; rintro e1 w2 ⟨rfl, rfl⟩) | (go_at_call 117; refine HK.out.mono ?_; rintro e1 w2 ⟨rfl, rfl⟩))
  go_ret2
  exact ⟨rfl, HB.out⟩
end Go.Proofs.YtnbhohaphmilmaaGreatDoor
namespace Go.Proofs.YtnbhohaphmilmaaGreatDoor
open Go.RowKit
set_option linter.unusedVariables false
set_option linter.unusedSimpArgs false
def nodeA (kind mode links up : Int) : Array Value := #[.int .i64 kind, .int .i64 mode, .int .i64 0, .int .i64 0, .int .i64 0, .int .i64 links, .int .i64 up, .slice none 0 0]
attribute [local go_sem ↓] mkB_eq
set_option maxRecDepth 100000 in
set_option maxHeartbeats 400000 in
theorem iright0_is (w : World) : Calls Tryz.prog 116 #[.agg (nodeA 0 0 0 0)] w fun e w' => e = .returned (.int .i64 0) ∧ Below w.heap.size w w' := by
  unfold nodeA
  go_enter Tryz.func116, Tryz.ntmps116
  go_wp2_with fail
  go_ret
  exact ⟨rfl, Go.Joins.below_alloc1 w _⟩
set_option maxRecDepth 100000 in
set_option maxHeartbeats 1000000 in
theorem iright1_is (w : World) : Calls Tryz.prog 116 #[.agg (nodeA 2 493 1 1)] w fun e w' => e = .returned (.int .i64 0) ∧ Below w.heap.size w w' := by
  unfold nodeA
  have HB := Lib.hid (Go.Joins.below_alloc1 w (.cells #[.int .i64 2, .int .i64 493, .int .i64 0, .int .i64 0, .int .i64 0, .int .i64 1, .int .i64 1, .slice none 0 0] 154))
  have HR := Lib.hid (xright_is (w.alloc (.cells #[.int .i64 2, .int .i64 493, .int .i64 0, .int .i64 0, .int .i64 0, .int .i64 1, .int .i64 1, .slice none 0 0] 154)))
  go_enter Tryz.func116, Tryz.ntmps116
  go_upto_region 14 with (go_at_call 194; refine HR.out.mono ?_; rintro e1 w1 ⟨rfl, rfl⟩)
  go_region_with (go_at_call 137; refine (blocks0_is _).mono ?_; rintro e1 w1 ⟨rfl, rfl⟩)
  all_goals
    go_wp2_with fail
    go_ret
    exact ⟨rfl, HB.out.drew⟩
end Go.Proofs.YtnbhohaphmilmaaGreatDoor
