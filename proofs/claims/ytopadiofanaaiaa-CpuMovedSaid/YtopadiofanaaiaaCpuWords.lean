/- The walk of ringkeep5.CpuWords. -/
import Derived.Test.YtopadiofanaaiaaCpuRing
import Derived.Test.YtopadiofanaaiaaCpuWordsPlain
import Derived.Laws.CopyOwn
namespace Go.Proofs.Ytopadiofanaaiaa.CpuLaw
open Go.RowKit
set_option linter.unusedVariables false
set_option linter.unusedSimpArgs false
attribute [local go_sem ↓] load61_eq store61_eq zero61 cells61
attribute [local go_sem] cellsA_size ring1
def L0 : List Int := List.replicate 64 0
def Z64 : Array Value := (L0.map u8V).toArray
theorem make64 (w : World) : (Instr.makeSlice 49 (.int .i64 64) (.int .i64 64)).run Try.prog w = .ok (.slice (some ⟨w.heap.size, 0, none⟩) 64 64) (w.alloc (.cells Z64 5)) := by kernel_rfl
/-- bytes in a block of 64 cells -/
def Bytes (w : World) (b : Nat) (l : List Int) : Prop := w.heap[b]? = some (.cells (l.map u8V).toArray 5 (0, 0))
theorem splice_map (L M : List Int) (k : Nat) : splice (L.map u8V) k (M.map u8V) = (splice L k M).map u8V := by simp [splice]
theorem splice_ok {L M : List Int} {k n : Nat} (hl : L.length = n) (hk : k + M.length ≤ n) (hL : ∀ x ∈ L, 0 ≤ x ∧ x ≤ 255) (hM : ∀ x ∈ M, 0 ≤ x ∧ x ≤ 255) : (splice L k M).length = n ∧ ∀ x ∈ splice L k M, 0 ≤ x ∧ x ≤ 255 := by
  refine ⟨by rw [length_splice _ _ _ (by omega), hl], fun x hx => ?_⟩
  simp only [splice, List.mem_append] at hx
  rcases hx with h | h | h
  · exact hL x (List.mem_of_mem_take h)
  · exact hM x h
  · exact hL x (List.mem_of_mem_drop h)
theorem L0_ok : L0.length = 64 ∧ ∀ x ∈ L0, 0 ≤ x ∧ x ≤ 255 := by
  refine ⟨by simp [L0], fun x hx => ?_⟩
  have := List.eq_of_mem_replicate hx
  omega
/-- the three instructions as they lie -/
def insC : Array Value := #[.int .i64 17, .int .i64 1, .int .i64 2, .int .i64 0, .int .i64 15, .int .i64 3, .int .i64 2, .int .i64 0, .int .i64 16, .int .i64 4, .int .i64 2, .int .i64 3]
theorem encP1 : CodeLaw.encR 17 1 2 0 = (286392320, 0) := enc1
theorem encP2 : CodeLaw.encR 15 3 2 0 = (254935040, 0) := enc2
theorem encP3 : CodeLaw.encR 16 4 2 3 = (272760835, 0) := enc3
theorem owns_keep {w w' : World} {B n : Nat} {v : Value} {l : List Value} (h : w.ownsRow B 5 1 v n l) (hb : Below w.heap.size w w') : w'.ownsRow B 5 1 v n l :=
  h.kept (row := none) ⟨hb.os, hb.tape, hb.output, hb.size, fun k hk _ => hb.block k hk⟩ (by cases hv : v.ownBlock <;> simp)
theorem one4 {a b c d : Int} : ∀ u ∈ [Value.int .u8 a, .int .u8 b, .int .u8 c, .int .u8 d], u.oneCell' = true := by
  intro u hu
  simp at hu
  rcases hu with rfl | rfl | rfl | rfl <;> rfl
theorem at_bounds (a : Nat) : ∃ b : Nat, 32 + (a : Int) % 7 * 4 = (b : Int) ∧ 32 ≤ b ∧ b % 4 = 0 ∧ b + 3 < 64 := ⟨32 + a % 7 * 4, by omega, by omega, by omega, by omega⟩
set_option maxRecDepth 100000 in
set_option maxHeartbeats 1000000 in
theorem words_any {w : World} {s : Value} {xs : List Int} {a x : Nat} (hs : At (Value.int .u8) 0 w s xs) (hx : ∀ x ∈ xs, 0 ≤ x ∧ x ≤ 255) (ha : a < 4294967296) (hw : x < 4294967296) :
    Calls Try.prog 10 #[s, .int .u32 a, .int .u32 x] w fun e w' => e = .returned (.bool true) ∧ Below w.heap.size w w' := by
  obtain ⟨sp, cap, rfl, hl, hcap, hc⟩ := hs
  have HS := Lib.hid hc
  have HX := Lib.hid hx
  have HW := Lib.hid hw
  have hmk := make64
  clear hc hx hw hcap hl
  go_enter Try.func10, Try.ntmps10
  go_wp2_with fail
  refine (steps_any _).mono ?_
  rintro e w1 ⟨rfl, hb1, -⟩
  have HB1 := Lib.hid hb1
  clear hb1
  go_upto_region 4 with fail
  obtain ⟨M, hM⟩ : ∃ M, M = xs.take 64 := ⟨_, rfl⟩
  have hMl : M.length = min xs.length 64 := by rw [hM]; simp [Nat.min_comm]
  have hMx : ∀ x ∈ M, 0 ≤ x ∧ x ≤ 255 := fun x hx => HX.out x (by rw [hM] at hx; exact List.mem_of_mem_take hx)
  have hsrc : 0 < (M.map u8V).length → some (⟨w1.heap.size, 0, none⟩ : Addr) = some ⟨w1.heap.size, 0, none⟩ ∧ ∃ ad, sp = some ad ∧ ∀ j v, (M.map u8V)[j]? = some v → (w1.alloc (.cells Z64 5)).cell? (ad.add j) = some v := by
    intro h0
    rcases HS.out with h | ⟨b, off, hab, hlt, hc⟩
    · rw [hM, h] at h0
      simp at h0
    · refine ⟨rfl, _, hab, fun j v hv => ?_⟩
      rw [Addr.add_lit]
      have hb := HB1.out
      rw [World.cell?_alloc_past _ _ _ (by have := hb.size; show b < _; omega), hb.cell (p := ⟨b, off + j, none⟩) hlt]
      rw [hM, List.getElem?_map, List.getElem?_take] at hv
      by_cases h64 : j < 64
      · rw [if_pos h64] at hv
        by_cases hj : j < xs.length
        · rw [List.getElem?_eq_getElem hj] at hv
          simp only [Option.map_some, Option.some.injEq] at hv
          rw [hc j hj, ← hv]
          simp [List.getD, hj]
        · rw [List.getElem?_eq_none (by omega)] at hv
          cases hv
      · rw [if_neg h64] at hv
        cases hv
  have hcl : (M.map u8V).length = Nat.min xs.length 64 := by rw [List.length_map]; exact hMl
  have h1M := u8V_one M
  have hfit : 0 + (M.map u8V).length ≤ (L0.map u8V).length := by rw [List.length_map, List.length_map, L0_ok.1]; omega
  have H6 := Lib.hid hfit
  clear hfit
  have hsp := splice_map L0 M 0
  have hok := splice_ok (L := L0) (M := M) (k := 0) L0_ok.1 (by omega) L0_ok.2 hMx
  have H1 := Lib.hid hsrc
  have H2 := Lib.hid hcl
  have H3 := Lib.hid h1M
  have H4 := Lib.hid hsp
  have H5 := Lib.hid hok
  clear hsrc hcl h1M hsp hok hMl hMx hM HS HX
  generalize M.map u8V = cs at *
  go_wp2_with (refine wpList_copy_splice (o := ⟨some 22, _, _, _, _, _⟩) rfl (.tmp 20) (.tmp 21) 49 49 rfl 5 Try.underlying49 (by kernel_rfl) _ _ 64 64 xs.length cap rfl rfl w1.heap.size 0 (L0.map u8V) 5 (heap_alloc_new w1 _) cs H2.out H1.out H6.out H3.out w.heap.size w (HB1.out.alloc HB1.out.size _) HB1.out.size ?_)
  intro w3 hg3 hb3
  have hby : Bytes w3 w1.heap.size (splice L0 0 M) := by unfold Bytes; rw [← H4.out]; exact hg3.out
  have hbs := HB1.out.size
  have hlt : w1.heap.size < w3.heap.size := (Array.getElem?_eq_some_iff.1 hby).1
  clear H1 H2 H3 H4 H6 hg3 HB1 hmk
  generalize splice L0 0 M = L1 at *
  generalize w1.heap.size = b0 at *
  have HBY := Lib.hid hby
  have HB3 := Lib.hid hb3
  have HBS := Lib.hid hbs
  have HLT := Lib.hid hlt
  clear hby hb3 hbs hlt
  go_upto_region 6 with fail
  obtain ⟨ad, had, had1, had2, had3⟩ := at_bounds a
  rw [had]
  have HAD := Lib.hid (And.intro had1 (And.intro had2 had3))
  clear had had1 had2 had3
  go_upto_region 8 with fail
  have hI : (w3.alloc (.cells insC 51)).heap[w3.heap.size]? = some (.cells insC 51 (0, 0)) := heap_alloc_new w3 _
  have hB4 := Go.Joins.below_alloc1 w3 (.cells insC 51)
  have hS4 : (w3.alloc (.cells insC 51)).heap.size = w3.heap.size + 1 := by simp
  have HBY4 := Lib.hid (show Bytes _ b0 L1 from (hB4.block _ HLT.out).trans HBY.out)
  have HB4 := Lib.hid (HB3.out.trans (hB4.mono HB3.out.size))
  have HI4 := Lib.hid hI
  have HS4 := Lib.hid hS4
  clear hI hB4 hS4 HBY HB3
  revert HBY4 HB4 HI4 HS4
  generalize hW4 : w3.alloc (.cells insC 51) = W4
  unfold insC at hW4
  rw [hW4]
  generalize w3.heap.size = n30 at *
  intro HBY4 HB4 HI4 HS4
  clear hW4
  obtain ⟨i0, hi0, hz0, hz1, hz2⟩ := info_parts info5
  have HI0 := Lib.hid hi0
  clear hi0
  go_loopw [8, 32] (fun v8 iv wr => ∃ i : Nat, i ≤ 3 ∧ iv = .int .i64 i ∧ Hid (wr.ownsRow (n30 + 1) 5 1 v8 (4 * i) ((progB.take (4 * i)).map u8V) ∧ Below (n30 + 1) W4 wr)) (fun _ iv _ => 3 - (intOf iv).toNat)
  case atStart => exact ⟨0, by omega, rfl, World.ownsRow_nil _ _ _ _, Below.refl _ _⟩
  case round =>
    obtain ⟨i, hi, rfl, HO⟩ := hrel
    have hh := (HO.out.2.block n30 (by omega)).trans HI4.out
    have HH := Lib.hid hh
    clear hh
    by_cases h0 : i = 0
    · subst h0
      have q0 : wr.cell? ⟨n30, 0, none⟩ = some (.int .i64 17) := by rw [cell_of_row _ _ _ _ _ _ HH.out]; rfl
      have q1 : wr.cell? ⟨n30, 1, none⟩ = some (.int .i64 1) := by rw [cell_of_row _ _ _ _ _ _ HH.out]; rfl
      have q2 : wr.cell? ⟨n30, 2, none⟩ = some (.int .i64 2) := by rw [cell_of_row _ _ _ _ _ _ HH.out]; rfl
      have q3 : wr.cell? ⟨n30, 3, none⟩ = some (.int .i64 0) := by rw [cell_of_row _ _ _ _ _ _ HH.out]; rfl
      go_wp2_with fail
      refine (CodeLaw.enc_is 17 1 2 0 _).mono ?_
      rintro e w5 ⟨rfl, hb5⟩
      rw [encP1]
      have hr1 := (owns_keep (HO.out.1.alloc _) hb5).alloc (.cells #[.int .u8 0, .int .u8 0, .int .u8 18, .int .u8 17] 5)
      have hb1 := ((HO.out.2.alloc (by have := HO.out.2.size; have := HS4.out; omega) _).trans (hb5.mono (by have := HO.out.2.size; have := HS4.out; simp; omega))).alloc (by have := hb5.size; have := HO.out.2.size; have := HS4.out; simp at *; omega) (.cells #[.int .u8 0, .int .u8 0, .int .u8 18, .int .u8 17] 5)
      have hz5 : n30 + 1 ≤ w5.heap.size := by have := hb5.size; have := HO.out.2.size; have := HS4.out; simp at *; omega
      have HR1 := Lib.hid hr1
      have HB1 := Lib.hid hb1
      have HZ5 := Lib.hid hz5
      have HC := Lib.hid (cells_new w5 [.int .u8 0, .int .u8 0, .int .u8 18, .int .u8 17] 5)
      clear hr1 hb1 hz5 hb5 q0 q1 q2 q3
      go_wp2_with (at_builtin; go_loud (refine wpList_append_fresh _ rfl (.tmp 43) (.tmp 55) 49 rfl (n30 + 1) 5 i0 (.int .u8 0) 1 1 Try.underlying49 HI0.out hz0 hz1 hz2 rfl (by decide) _ _ _ rfl HR1.out ⟨_, 0, none⟩ 4 4 [.int .u8 0, .int .u8 0, .int .u8 18, .int .u8 17] rfl rfl HC.out one4 (by unfold maxLen; omega) (by omega) (by have := HZ5.out; simp; omega) ?_))
      intro v7 w7 own7 grow7 fresh7
      have HO7 := Lib.hid own7
      have HB7 := Lib.hid (HB1.out.grown grow7 (by have := HZ5.out; simp; omega) (fun g' hg' => (HR1.out.lt g' hg').1))
      clear own7 grow7 fresh7 HR1 HB1 HZ5 HC HO HH
      go_wp2_with fail
      go_roundw
      case rel => exact ⟨1, by omega, by go_num, by have := HO7.out; exact this, HB7.out⟩
      case measure => simp [intOf]
    by_cases h1 : i = 1
    · subst h1
      have q0 : wr.cell? ⟨n30, 4, none⟩ = some (.int .i64 15) := by rw [cell_of_row _ _ _ _ _ _ HH.out]; rfl
      have q1 : wr.cell? ⟨n30, 5, none⟩ = some (.int .i64 3) := by rw [cell_of_row _ _ _ _ _ _ HH.out]; rfl
      have q2 : wr.cell? ⟨n30, 6, none⟩ = some (.int .i64 2) := by rw [cell_of_row _ _ _ _ _ _ HH.out]; rfl
      have q3 : wr.cell? ⟨n30, 7, none⟩ = some (.int .i64 0) := by rw [cell_of_row _ _ _ _ _ _ HH.out]; rfl
      go_wp2_with fail
      refine (CodeLaw.enc_is 15 3 2 0 _).mono ?_
      rintro e w5 ⟨rfl, hb5⟩
      rw [encP2]
      have hr1 := (owns_keep (HO.out.1.alloc _) hb5).alloc (.cells #[.int .u8 0, .int .u8 0, .int .u8 50, .int .u8 15] 5)
      have hb1 := ((HO.out.2.alloc (by have := HO.out.2.size; have := HS4.out; omega) _).trans (hb5.mono (by have := HO.out.2.size; have := HS4.out; simp; omega))).alloc (by have := hb5.size; have := HO.out.2.size; have := HS4.out; simp at *; omega) (.cells #[.int .u8 0, .int .u8 0, .int .u8 50, .int .u8 15] 5)
      have hz5 : n30 + 1 ≤ w5.heap.size := by have := hb5.size; have := HO.out.2.size; have := HS4.out; simp at *; omega
      have HR1 := Lib.hid hr1
      have HB1 := Lib.hid hb1
      have HZ5 := Lib.hid hz5
      have HC := Lib.hid (cells_new w5 [.int .u8 0, .int .u8 0, .int .u8 50, .int .u8 15] 5)
      clear hr1 hb1 hz5 hb5 q0 q1 q2 q3
      go_wp2_with (at_builtin; go_loud (refine wpList_append_fresh _ rfl (.tmp 43) (.tmp 55) 49 rfl (n30 + 1) 5 i0 (.int .u8 0) 1 1 Try.underlying49 HI0.out hz0 hz1 hz2 rfl (by decide) _ _ _ rfl HR1.out ⟨_, 0, none⟩ 4 4 [.int .u8 0, .int .u8 0, .int .u8 50, .int .u8 15] rfl rfl HC.out one4 (by unfold maxLen; omega) (by omega) (by have := HZ5.out; simp; omega) ?_))
      intro v7 w7 own7 grow7 fresh7
      have HO7 := Lib.hid own7
      have HB7 := Lib.hid (HB1.out.grown grow7 (by have := HZ5.out; simp; omega) (fun g' hg' => (HR1.out.lt g' hg').1))
      clear own7 grow7 fresh7 HR1 HB1 HZ5 HC HO HH
      go_wp2_with fail
      go_roundw
      case rel => exact ⟨2, by omega, by go_num, by have := HO7.out; exact this, HB7.out⟩
      case measure => simp [intOf]
    by_cases h2 : i = 2
    · subst h2
      have q0 : wr.cell? ⟨n30, 8, none⟩ = some (.int .i64 16) := by rw [cell_of_row _ _ _ _ _ _ HH.out]; rfl
      have q1 : wr.cell? ⟨n30, 9, none⟩ = some (.int .i64 4) := by rw [cell_of_row _ _ _ _ _ _ HH.out]; rfl
      have q2 : wr.cell? ⟨n30, 10, none⟩ = some (.int .i64 2) := by rw [cell_of_row _ _ _ _ _ _ HH.out]; rfl
      have q3 : wr.cell? ⟨n30, 11, none⟩ = some (.int .i64 3) := by rw [cell_of_row _ _ _ _ _ _ HH.out]; rfl
      go_wp2_with fail
      refine (CodeLaw.enc_is 16 4 2 3 _).mono ?_
      rintro e w5 ⟨rfl, hb5⟩
      rw [encP3]
      have hr1 := (owns_keep (HO.out.1.alloc _) hb5).alloc (.cells #[.int .u8 3, .int .u8 0, .int .u8 66, .int .u8 16] 5)
      have hb1 := ((HO.out.2.alloc (by have := HO.out.2.size; have := HS4.out; omega) _).trans (hb5.mono (by have := HO.out.2.size; have := HS4.out; simp; omega))).alloc (by have := hb5.size; have := HO.out.2.size; have := HS4.out; simp at *; omega) (.cells #[.int .u8 3, .int .u8 0, .int .u8 66, .int .u8 16] 5)
      have hz5 : n30 + 1 ≤ w5.heap.size := by have := hb5.size; have := HO.out.2.size; have := HS4.out; simp at *; omega
      have HR1 := Lib.hid hr1
      have HB1 := Lib.hid hb1
      have HZ5 := Lib.hid hz5
      have HC := Lib.hid (cells_new w5 [.int .u8 3, .int .u8 0, .int .u8 66, .int .u8 16] 5)
      clear hr1 hb1 hz5 hb5 q0 q1 q2 q3
      go_wp2_with (at_builtin; go_loud (refine wpList_append_fresh _ rfl (.tmp 43) (.tmp 55) 49 rfl (n30 + 1) 5 i0 (.int .u8 0) 1 1 Try.underlying49 HI0.out hz0 hz1 hz2 rfl (by decide) _ _ _ rfl HR1.out ⟨_, 0, none⟩ 4 4 [.int .u8 3, .int .u8 0, .int .u8 66, .int .u8 16] rfl rfl HC.out one4 (by unfold maxLen; omega) (by omega) (by have := HZ5.out; simp; omega) ?_))
      intro v7 w7 own7 grow7 fresh7
      have HO7 := Lib.hid own7
      have HB7 := Lib.hid (HB1.out.grown grow7 (by have := HZ5.out; simp; omega) (fun g' hg' => (HR1.out.lt g' hg').1))
      clear own7 grow7 fresh7 HR1 HB1 HZ5 HC HO HH
      go_wp2_with fail
      go_roundw
      case rel => exact ⟨3, by omega, by go_num, by have := HO7.out; exact this, HB7.out⟩
      case measure => simp [intOf]
    · obtain rfl : i = 3 := by omega
      obtain ⟨w5, rfl⟩ : ∃ x : World, x = wr := ⟨_, rfl⟩
      obtain ⟨p8, c8, rfl⟩ := owns_slice HO.out.1
      have hcl : (progB.map u8V).length = Nat.min 12 64 := by rw [List.length_map]; rfl
      have hfit : 0 + (progB.map u8V).length ≤ (L1.map u8V).length := by rw [List.length_map, List.length_map, H5.out.1]; decide
      have hsrc : 0 < (progB.map u8V).length → some (⟨b0, 0, none⟩ : Addr) = some ⟨b0, 0, none⟩ ∧ ∃ ad, p8 = some ad ∧ ∀ j v, (progB.map u8V)[j]? = some v → w5.cell? (ad.add j) = some v := by
        intro _
        have ho := HO.out.1
        rcases ho.2 with ⟨h, hn⟩ | ⟨g, cap', cur, h, hb, hg, hnc, hcm, hcs, htake⟩
        · simp at hn
        · simp only [Value.slice.injEq] at h
          refine ⟨rfl, _, h.1, fun j v hv => ?_⟩
          rw [Addr.add_lit]
          have hj : j < 12 := by
            rcases Nat.lt_or_ge j 12 with q | q
            · exact q
            · rw [List.getElem?_eq_none (by simpa [progB] using q)] at hv; cases hv
          have ho2 := ho
          rw [h.1] at ho2
          have := ho2.cellAt j (by simpa using hj)
          have e : ((List.take (4 * 3) progB).map u8V)[j]? = (progB.map u8V)[j]? := rfl
          rw [e, hv] at this
          simpa [Addr.add_lit] using this
      have hby5 : Bytes w5 b0 L1 := (HO.out.2.block b0 (by have := HLT.out; omega)).trans HBY4.out
      have hb5 : Below w.heap.size w w5 := HB4.out.trans (HO.out.2.mono (by have := HB4.out.size; have := HS4.out; omega))
      have hM : ∀ x ∈ progB, 0 ≤ x ∧ x ≤ 255 := by decide
      have hok := splice_ok (L := L1) (M := progB) (k := 0) H5.out.1 (by decide) H5.out.2 hM
      have hsp := splice_map L1 progB 0
      have h1M := u8V_one progB
      have hpr : ∀ i, i < 12 → (splice L1 0 progB).getD i 0 = progB.getD i 0 := by
        intro i hi
        have : i < progB.length := hi
        simp only [splice, List.take_zero, List.nil_append, List.getD_eq_getElem?_getD]
        rw [List.getElem?_append_left this]
      have H1 := Lib.hid hcl
      have H2 := Lib.hid hfit
      have H3 := Lib.hid hsrc
      have H4 := Lib.hid hby5
      have H6 := Lib.hid hb5
      have H7 := Lib.hid hok
      have H8 := Lib.hid hsp
      have H9 := Lib.hid h1M
      have H10 := Lib.hid hpr
      clear hcl hfit hsrc hby5 hb5 hM hok hsp h1M hpr HO HH HI4 HBY4 HB4
      generalize progB.map u8V = cp at *
      go_upto_region 15 with fail
      go_wp2_with (refine wpList_copy_splice (o := ⟨some 60, _, _, _, _, _⟩) rfl (.tmp 58) (.tmp 59) 49 49 rfl 5 Try.underlying49 (by kernel_rfl) _ _ 64 64 12 c8 rfl rfl b0 0 (L1.map u8V) 5 H4.out cp H1.out H3.out H2.out H9.out w.heap.size w H6.out HBS.out ?_)
      intro w6 hg6 hb6
      have hby : Bytes w6 b0 (splice L1 0 progB) := by unfold Bytes; rw [← H8.out]; exact hg6.out
      have HBY := Lib.hid hby
      have HB6 := Lib.hid hb6
      clear hby hg6 hb6 H1 H2 H3 H4 H5 H6 H8 H9
      generalize splice L1 0 progB = L2 at *
      have hlt6 : b0 < w6.heap.size := (Array.getElem?_eq_some_iff.1 HBY.out).1
      have hat : At (Value.int .u8) 0 w6 (.slice (some ⟨b0, 0, none⟩) 64 64) L2 := by
        refine ⟨_, 64, by rw [H7.out.1], by rw [H7.out.1]; decide, by decide, .inr ⟨b0, 0, rfl, hlt6, fun i hi => ?_⟩⟩
        rw [Nat.zero_add, cell_of_row _ _ _ _ _ _ HBY.out]
        simp [List.getD, hi]
      have HAT := Lib.hid hat
      have HLT6 := Lib.hid hlt6
      clear hat hlt6
      go_wp2_with fail
      refine (cloneB_is (by rw [H7.out.1]; decide) HAT.out).mono ?_
      rintro e w7 ⟨v7, rfl, hown, hb7⟩
      rw [H7.out.1] at hown
      obtain ⟨p7, c7, rfl⟩ := owns_slice hown
      have HO7 := Lib.hid hown
      have HB7 := Lib.hid (HB6.out.trans (hb7.mono HB6.out.size))
      have HBY7 := Lib.hid (show Bytes w7 b0 L2 from (hb7.block b0 HLT6.out).trans HBY.out)
      have HS7 := Lib.hid hb7.size
      clear hown hb7 HBY HAT HB6
      go_upto_region 17 with fail
      have hh8 := heap_alloc_new w7 (.cells #[.int .u32 0, .slice p7 64 c7, .int .i64 7] 58)
      have hbk := Go.Joins.below_alloc1 w7 (.cells #[.int .u32 0, .slice p7 64 c7, .int .i64 7] 58)
      obtain ⟨c, hcB, hroom⟩ := room_of (w := w7) (w3 := w7.alloc (.cells #[.int .u32 0, .slice p7 64 c7, .int .i64 7] 58)) (b := w7.heap.size) (B := w6.heap.size) (A := 0) (v := .slice p7 64 c7) (l := L2) (may := 7) (by decide) (by rw [H7.out.1]; decide) H7.out.2 (by simp) (.inr (Nat.le_refl _)) (fun k _ h => hbk.block k h) (by simp) (by rw [cell_of_row _ _ _ _ _ _ hh8]; rfl) (by rw [cell_of_row _ _ _ _ _ _ hh8]; rfl) (by rw [cell_of_row _ _ _ _ _ _ hh8]; rfl) (by rw [H7.out.1]; exact HO7.out) (Nat.le_refl _) (fun h => absurd H7.out.1 (by rw [h]; decide))
      rw [H7.out.1] at hroom
      have hroom : Room (w7.alloc (.cells #[.int .u32 0, .slice p7 64 c7, .int .i64 7] 58)) w7.heap.size c (mW (bytesF L2)) := hroom
      have hpg : HasProg (bytesF L2) := ⟨fun i hi => by
        have h1 := H10.out i hi
        have h2 : 0 ≤ progB.getD i 0 ∧ progB.getD i 0 ≤ 255 := by
          have : i = 0 ∨ i = 1 ∨ i = 2 ∨ i = 3 ∨ i = 4 ∨ i = 5 ∨ i = 6 ∨ i = 7 ∨ i = 8 ∨ i = 9 ∨ i = 10 ∨ i = 11 := by omega
          rcases this with rfl | rfl | rfl | rfl | rfl | rfl | rfl | rfl | rfl | rfl | rfl | rfl <;> decide
        unfold bytesF
        rw [h1]
        omega⟩
      have hlaw := words_law (w := x) hpg HW.out HAD.out.1 HAD.out.2.1 HAD.out.2.2
      have hgood := good_gW (w := x) (a := ad) HW.out (by have := HAD.out.2.2; omega)
      have hcb : b0 < c ∧ c < w7.heap.size + 1 := ⟨by have := HLT6.out; omega, by have := hroom.cl; simp at this; omega⟩
      have hby8 : Bytes (w7.alloc (.cells #[.int .u32 0, .slice p7 64 c7, .int .i64 7] 58)) b0 L2 := (hbk.block b0 (by have := HLT6.out; have := HS7.out; omega)).trans HBY7.out
      have hb8 := HB7.out.trans (hbk.mono HB7.out.size)
      have hsz8 : (w7.alloc (.cells #[.int .u32 0, .slice p7 64 c7, .int .i64 7] 58)).heap.size = w7.heap.size + 1 := by simp
      clear HO7 HB7 HBY7 HS7 HLT6 hh8 hbk hcB H10 hpg
      revert hroom hby8 hb8 hsz8
      generalize w7.alloc (.cells #[.int .u32 0, .slice p7 64 c7, .int .i64 7] 58) = W8
      generalize w7.heap.size = n13 at *
      intro hroom hby8 hb8 hsz8
      have hs9 := (row_new W8 zeroG).store g1
      have hr9 := (row_new W8 zeroG).setRow g1
      have ho9 : Below W8.heap.size W8 ((W8.alloc (.cells (cellsA zeroG) 61)).setRow W8.heap.size (cellsA g1)) := below_setRow (Go.Joins.below_alloc1 _ _) (Nat.le_refl _) _
      have HR9 := Lib.hid hr9
      have HQ9 := Lib.hid (hroom.keep ho9)
      have HY9 := Lib.hid (show Bytes _ b0 L2 from (ho9.block b0 (by omega)).trans hby8)
      have HB9 := Lib.hid (hb8.trans (ho9.mono hb8.size))
      have HL := Lib.hid hlaw
      have HG := Lib.hid hgood
      have HC := Lib.hid hcb
      have HS8 := Lib.hid hsz8
      clear hr9 ho9 hroom hby8 hb8 hlaw hgood hcb hsz8
      go_upto_region 18 with fail
      clear hs9
      revert HR9 HQ9 HY9 HB9
      generalize (W8.alloc (.cells (cellsA zeroG) 61)).setRow W8.heap.size (cellsA g1) = W9
      rw [HS8.out]
      intro HR9 HQ9 HY9 HB9
      have z1 := HR9.out.cr (k := 1) (by decide)
      have z2 := HR9.out.cr (k := 2) (by decide)
      have zf := HR9.out.fz
      go_upto_region 19 with fail
      have hr10 : Row ((W9.setCell ⟨n13 + 1, 1, none⟩ (.int .u32 x)).setCell ⟨n13 + 1, 2, none⟩ (.int .u32 ad)) (n13 + 1) (gW x ad) := (HR9.out.setReg (k := 1) (by decide) x).setReg (k := 2) (by decide) ad
      have hq10 := (HQ9.out.other (n := n13 + 1) (i := 1) (v := .int .u32 x) (by omega) (by have := HC.out.2; omega)).other (n := n13 + 1) (i := 2) (v := .int .u32 ad) (by omega) (by have := HC.out.2; omega)
      have hy10 : Bytes ((W9.setCell ⟨n13 + 1, 1, none⟩ (.int .u32 x)).setCell ⟨n13 + 1, 2, none⟩ (.int .u32 ad)) b0 L2 := (Below.heap_setCell _ _ _ _ (by have := HC.out; show b0 ≠ n13 + 1; omega)).trans ((Below.heap_setCell _ _ _ _ (by have := HC.out; show b0 ≠ n13 + 1; omega)).trans HY9.out)
      have hn13 : w.heap.size ≤ n13 := by have := HBS.out; have := HC.out; omega
      have hb10 := (HB9.out.setCell (p := ⟨n13 + 1, 1, none⟩) (by show _ ≤ n13 + 1; omega) (.int .u32 x)).setCell (p := ⟨n13 + 1, 2, none⟩) (by show _ ≤ n13 + 1; omega) (.int .u32 ad)
      have hz10 : n13 + 1 < ((W9.setCell ⟨n13 + 1, 1, none⟩ (.int .u32 x)).setCell ⟨n13 + 1, 2, none⟩ (.int .u32 ad)).heap.size := hr10.lt
      clear z1 z2 zf HR9 HQ9 HY9 HB9
      revert hr10 hq10 hy10 hb10 hz10
      generalize (W9.setCell ⟨n13 + 1, 1, none⟩ (.int .u32 x)).setCell ⟨n13 + 1, 2, none⟩ (.int .u32 ad) = W10
      intro hr10 hq10 hy10 hb10 hz10
      have HR10 := Lib.hid hr10
      have HQ10 := Lib.hid hq10
      have HY10 := Lib.hid hy10
      have HB10 := Lib.hid hb10
      have HN := Lib.hid hn13
      clear hr10 hq10 hy10 hb10 hz10 hn13
      obtain ⟨gs, hgs⟩ : ∃ gs, gs = gS (gW x ad) (mW (bytesF L2)) := ⟨_, rfl⟩
      have hsucc : ∀ i, gs (i + 1) = ((stepF (gs i).1 (gs i).2).g, (stepF (gs i).1 (gs i).2).m) := fun i => by rw [hgs]; rfl
      have hg00 : (gs 0).1 = gW x ad := by rw [hgs]; rfl
      have hg01 : (gs 0).2 = mW (bytesF L2) := by rw [hgs]; rfl
      have HSU := Lib.hid hsucc
      have HG0 := Lib.hid (And.intro hg00 hg01)
      rw [← hgs] at HL
      clear hsucc hg00 hg01 hgs
      go_wp2_with fail
      go_loopw [71] (fun iv wr => ∃ i : Nat, i ≤ 3 ∧ iv = .int .i64 i ∧ Hid (Row wr (n13 + 1) (gs i).1 ∧ Room wr n13 c (gs i).2 ∧ Bytes wr b0 L2 ∧ Below w.heap.size w wr ∧ Good (gs i).1 ∧ (gs i).1.ring = 1)) (fun iv _ => 3 - (intOf iv).toNat)
      case atStart => exact ⟨0, by omega, rfl, by rw [HG0.out.1]; exact HR10.out, by rw [HG0.out.2]; exact HQ10.out, HY10.out, HB10.out, by rw [HG0.out.1]; exact HG.out, by rw [HG0.out.1]; rfl⟩
      case round =>
        obtain ⟨i, hi, rfl, HI⟩ := hrel
        by_cases hi3 : i < 3
        · have hlt := HI.out.1.lt
          have hal := Go.Joins.below_alloc1 wr (.cells #[.int .i64 0, .int .u32 0] 63)
          have hl := (HI.out.1.keep hal).load
          have HR11 := Lib.hid (HI.out.1.keep hal)
          have HQ11 := Lib.hid (HI.out.2.1.keep hal)
          have HY11 := Lib.hid (show Bytes _ b0 L2 from (hal.block b0 (by have := HC.out; omega)).trans HI.out.2.2.1)
          have HB11 := Lib.hid (HI.out.2.2.2.1.trans (hal.mono HI.out.2.2.2.1.size))
          have HT11 := Lib.hid (slot_new wr)
          have HGI := Lib.hid HI.out.2.2.2.2
          have HLT := Lib.hid hlt
          clear hal hlt HI
          go_upto_region 22 with fail
          revert hl HR11 HQ11 HY11 HB11 HT11
          generalize wr.alloc (.cells #[.int .i64 0, .int .u32 0] 63) = W11
          intro hl HR11 HQ11 HY11 HB11 HT11
          have HW1 := Lib.hid HR11.out.lt
          go_wp2_with fail
          refine (step_is HQ11.out HGI.out.1 (by rw [HGI.out.2]; decide)).mono ?_
          rintro e w5 ⟨rfl, ho, hq⟩
          have ht := HL.out.1 i hi3
          have hring := (stepF_ring (gs i).1 (gs i).2).trans HGI.out.2
          have hgood := stepF_good HGI.out.1 HQ11.out.small
          have hnx := HSU.out i
          have hnc : n13 + 1 ≠ c := by have := HC.out; omega
          have hrow := HR11.out.keepO ho hnc
          have hslot := HT11.out.keep ho (by have := HC.out; have := HLT.out; omega)
          have hby := (ho.keep b0 (by have := HC.out; have := HW1.out; omega) (by have := HC.out; omega)).trans HY11.out
          have hbw := HB11.out.trans (ho.low w.heap.size (by have := HC.out; have := HBS.out; omega) HB11.out.size)
          clear hl HR11 HQ11 HY11 HB11 HT11 HGI ho
          generalize stepF (gs i).1 (gs i).2 = o at *
          obtain ⟨og, ot, oa, om⟩ := o
          dsimp only at ht hring hgood hq hnx
          subst ht
          have hs5 := hrow.store og
          have hslot5 := hslot.setRowO (d := n13 + 1) (by have := HLT.out; omega) (cellsA og)
          have t0 := hslot5.c0
          have t1 := hslot5.c1
          have tf := hslot5.fz
          have hrow6 := hrow.setRow og
          have hq6 := hq.keepO (Off.setRow w5 (n13 + 1) (cellsA og)) (by omega) (by have := HC.out; omega)
          have hby6 : Bytes (w5.setRow (n13 + 1) (cellsA og)) b0 L2 := (heap_setRow _ _ _ _ (by have := HC.out; omega)).trans hby
          have hb6 := below_setRow hbw (by have := HN.out; omega : w.heap.size ≤ n13 + 1) (cellsA og)
          have HS5 := Lib.hid hslot5
          have HR6 := Lib.hid hrow6
          have HQ6 := Lib.hid hq6
          have HY6 := Lib.hid hby6
          have HB6 := Lib.hid hb6
          have HNX := Lib.hid hnx
          have HRG := Lib.hid (And.intro hgood hring)
          clear hrow hslot hby hbw hslot5 hrow6 hq6 hby6 hb6 hnx hgood hring hq hnc
          go_upto_region 23 with fail
          have hT := HS5.out.set2 0 oa
          have hR := (HR6.out.setO (c := wr.heap.size) (i := 0) (by have := HLT.out; omega) (.int .i64 0)).setO (c := wr.heap.size) (i := 1) (by have := HLT.out; omega) (.int .u32 oa)
          have hQ := (HQ6.out.other (n := wr.heap.size) (i := 0) (v := .int .i64 0) (by have := HLT.out; omega) (by have := HLT.out; have := HC.out; omega)).other (n := wr.heap.size) (i := 1) (v := .int .u32 oa) (by have := HLT.out; omega) (by have := HLT.out; have := HC.out; omega)
          have hY : Bytes (((w5.setRow (n13 + 1) (cellsA og)).setCell ⟨wr.heap.size, 0, none⟩ (.int .i64 0)).setCell ⟨wr.heap.size, 1, none⟩ (.int .u32 oa)) b0 L2 := (Below.heap_setCell _ _ _ _ (by have := HC.out; have := HLT.out; show b0 ≠ wr.heap.size; omega)).trans ((Below.heap_setCell _ _ _ _ (by have := HC.out; have := HLT.out; show b0 ≠ wr.heap.size; omega)).trans HY6.out)
          have hB := (HB6.out.setCell (p := ⟨wr.heap.size, 0, none⟩) (by have := HN.out; have := HLT.out; show _ ≤ wr.heap.size; omega) (.int .i64 0)).setCell (p := ⟨wr.heap.size, 1, none⟩) (by have := HN.out; have := HLT.out; show _ ≤ wr.heap.size; omega) (.int .u32 oa)
          clear t0 t1 tf hs5 HS5 HR6 HQ6 HY6 HB6
          revert hT hR hQ hY hB
          generalize ((w5.setRow (n13 + 1) (cellsA og)).setCell ⟨wr.heap.size, 0, none⟩ (.int .i64 0)).setCell ⟨wr.heap.size, 1, none⟩ (.int .u32 oa) = W12
          intro hT hR hQ hY hB
          have t0 := hT.c0
          have HR12 := Lib.hid hR
          have HQ12 := Lib.hid hQ
          have HY12 := Lib.hid hY
          have HB12 := Lib.hid hB
          clear hT hR hQ hY hB
          go_wp2_with fail
          go_roundw
          case rel => exact ⟨i + 1, by omega, by go_num, by rw [HNX.out]; exact HR12.out, by rw [HNX.out]; exact HQ12.out, HY12.out, HB12.out, by rw [HNX.out]; exact HRG.out.1, by rw [HNX.out]; exact HRG.out.2⟩
          case measure => simp [intOf]; omega
        · obtain rfl : i = 3 := by omega
          obtain ⟨w9, rfl⟩ : ∃ x : World, x = wr := ⟨_, rfl⟩
          obtain ⟨r3, r4, f3, hm3, hf3⟩ := HL.out.2
          have hq := HI.out.2.1
          rw [hm3] at hq
          have hrow := HI.out.1
          have c3 := hrow.cr (k := 3) (by decide)
          have c4 := hrow.cr (k := 4) (by decide)
          rw [r3] at c3
          rw [r4] at c4
          obtain ⟨pt, cp2, k1, hpt⟩ := hq.c1
          have hpt := hpt (show 0 < 64 by decide)
          subst hpt
          have k1 : w9.cell? ⟨n13, 1, none⟩ = some (.slice (some ⟨c, 0, none⟩) 64 cp2) := k1
          have kb : ∀ k, k < 64 → w9.cell? ⟨b0, k, none⟩ = some (.int .u8 (bytesF L2 k)) := by
            intro k hk
            rw [cell_of_row _ _ _ _ _ _ HI.out.2.2.1]
            have hk' : k < L2.length := by rw [H7.out.1]; exact hk
            have := H7.out.2 (L2[k]) (List.getElem_mem hk')
            have e : (bytesF L2 k : Int) = L2[k] := by
              unfold bytesF
              rw [List.getD_eq_getElem?_getD, List.getElem?_eq_getElem hk', Option.getD_some]
              omega
            rw [e]
            simp [hk']
          have kc : ∀ k, k < 64 → w9.cell? ⟨c, k, none⟩ = some (.int .u8 (f3 k)) := fun k hk => hq.d k hk
          have HKB := Lib.hid kb
          have HKC := Lib.hid kc
          have HK1 := Lib.hid k1
          have HF3 := Lib.hid hf3
          have HC3 := Lib.hid c3
          have HC4 := Lib.hid c4
          have HBW := Lib.hid HI.out.2.2.2.1
          have HAC := Lib.hid hq.cl
          have HAB := Lib.hid hq.bl
          have HAR := Lib.hid hrow.lt
          clear kb kc k1 hf3 c3 c4 hq hrow HI r3 r4 hm3 HL
          go_wp2_with fail
          go_loopw [85] (fun iv wr => ∃ k : Nat, k ≤ 64 ∧ iv = .int .i64 k ∧ Hid (Below w9.heap.size w9 wr)) (fun iv _ => 64 - (intOf iv).toNat)
          case atStart => exact ⟨0, by omega, rfl, Below.refl _ _⟩
          case round =>
            obtain ⟨k, hk, rfl, HI⟩ := hrel
            by_cases hk6 : k < 64
            · have e1 := (HI.out.cell (p := ⟨b0, k, none⟩) (by have := HC.out; have := HAC.out; show b0 < _; omega)).trans (HKB.out k hk6)
              have e2 := (HI.out.cell (p := ⟨c, k, none⟩) HAC.out).trans (HKC.out k hk6)
              have e3 := (HI.out.cell (p := ⟨n13, 1, none⟩) HAB.out).trans HK1.out
              have d0 : (k : Int) < 64 := by omega
              have d1 : (ad : Int) < 64 := by have := HAD.out.2.2; omega
              have d2 : 0 ≤ (ad : Int) := by omega
              by_cases hka : k < ad
              · rw [HF3.out k hk6 (.inl hka)] at e2
                have a1 : decide ((k : Int) < (ad : Int)) = true := decide_eq_true (by omega)
                have a2 : decide (k < ad) = true := decide_eq_true hka
                have a3 : (k : Int) < (ad : Int) := by omega
                go_wp2_with fail
                go_quiet (fail)
                go_wp2_with fail
                go_roundw
                case rel => exact ⟨k + 1, by omega, by go_num, below_drewN HI.out _⟩
                case measure => simp [intOf]; omega
              · have a1 : decide ((k : Int) < (ad : Int)) = false := decide_eq_false (by omega)
                have a2 : decide (k < ad) = false := decide_eq_false hka
                have a3 : ¬ (k : Int) < (ad : Int) := by omega
                by_cases hkb : ad + 3 < k
                · rw [HF3.out k hk6 (.inr hkb)] at e2
                  have b1 : decide ((ad : Int) + 3 < (k : Int)) = true := decide_eq_true (by omega)
                  have b2 : decide (ad + 3 < k) = true := decide_eq_true hkb
                  have b3 : (ad : Int) + 3 < (k : Int) := by omega
                  go_wp2_with fail
                  go_quiet (fail)
                  go_wp2_with fail
                  go_roundw
                  case rel => exact ⟨k + 1, by omega, by go_num, below_drewN HI.out _⟩
                  case measure => simp [intOf]; omega
                · have b1 : decide ((ad : Int) + 3 < (k : Int)) = false := decide_eq_false (by omega)
                  have b2 : decide (ad + 3 < k) = false := decide_eq_false hkb
                  have b3 : ¬ (ad : Int) + 3 < (k : Int) := by omega
                  go_wp2_with fail
                  go_quiet (fail)
                  go_wp2_with fail
                  go_roundw
                  case rel => exact ⟨k + 1, by omega, by go_num, below_drewN HI.out _⟩
                  case measure => simp [intOf]; omega
            · obtain rfl : k = 64 := by omega
              have e3 := (HI.out.cell (p := ⟨n13 + 1, 3, none⟩) HAR.out).trans HC3.out
              have e4 : wr.cell? ⟨n13 + 1, 4, none⟩ = some (.int .u32 ((x : Int) / 16777216)) := by
                rw [(HI.out.cell (p := ⟨n13 + 1, 4, none⟩) HAR.out).trans HC4.out]
                rfl
              go_wp2_with fail
              go_ret
              exact ⟨rfl, HBW.out.trans (HI.out.mono HBW.out.size)⟩
end Go.Proofs.Ytopadiofanaaiaa.CpuLaw
