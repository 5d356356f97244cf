/- The walk of check.Mark. The walks of package quota at no rows. The walks of package journal at a disk whose journal tells nothing. The walk of fs.Mount at a disk on which nothing is. What Format writes: sectors of a list of bytes; a slice behind which zeros are appended. -/
import Derived.Test.YtnbhohaphmilmaaGreatDoorTpA
import Derived.Test.YtnbhohaphmilmaaGreatDoorInode
import Derived.OwnWalk
import Derived.Test.YtnbhohaphmilmaaGreatDoorBegin
import Derived.Test.YtnbhohaphmilmaaGreatDoorLost
import Derived.Test.YtnbhohaphmilmaaGreatDoorDiskNew
import Derived.Lib.AppendZerosOnto
namespace Go.Proofs.YtnbhohaphmilmaaGreatDoor
open Go.RowKit
set_option linter.unusedVariables false
set_option linter.unusedSimpArgs false
def markL : List Int := [114, 105, 110, 103, 1, 64, 0] ++ zeros 57
theorem markL_len : markL.length = 64 := rfl
attribute [local go_sem ↓] mkB_eq copyS_eq
set_option maxRecDepth 100000 in
set_option maxHeartbeats 400000 in
theorem mark_is (w : World) : Calls Tryz.prog 59 #[.int .i64 64] w fun e w' => ∃ v, e = .returned v ∧ OB w.heap.size w' v markL ∧ Below w.heap.size w w' := by
  have hmk := mkB64 w
  have hb1 : BK (w.alloc (.cells ((zeros 64).map u8V).toArray 5)) w.heap.size (zeros 64) := bk_new w _
  have HB := Lib.hid (Go.Joins.below_alloc1 w (.cells ((zeros 64).map u8V).toArray 5))
  generalize w.alloc (.cells ((zeros 64).map u8V).toArray 5) = w1 at *
  have hcp := run_copyS (dC := 64) (news := [114, 105, 110, 103, 1]) (s := { data := #[114, 105, 110, 103, 1] }) hb1 rfl rfl (by decide)
  have hb2 := hb1.setRow (splice (zeros 64) 0 [114, 105, 110, 103, 1])
  have HB2 := Lib.hid (HB.out.trans (Upd.toBelow (Upd.setRow w1 ((splice (zeros 64) 0 [114, 105, 110, 103, 1]).map u8V).toArray (S := fun k => k = w.heap.size) rfl) HB.out.size (by omega)))
  rw [show (zeros 64).length = 64 from rfl, show ((([114, 105, 110, 103, 1] : List Int).length : Nat) : Int) = 5 from rfl] at hcp
  generalize w1.setRow w.heap.size ((splice (zeros 64) 0 [114, 105, 110, 103, 1]).map u8V).toArray = w2 at *
  have z5 := hb2.cell (i := 5) (by decide)
  have z6 := hb2.cell (i := 6) (by decide)
  have fz : ∀ j, w2.frozen? ⟨w.heap.size, j, none⟩ = false := fun j => by unfold BK at hb2; simp [World.frozen?, hb2]
  have f5 := fz 5
  have f6 := fz 6
  have HBK := Lib.hid hb2
  clear hb1 hb2 fz HB
  go_enter Tryz.func59, Tryz.ntmps59
  go_wp2_with fail
  go_ret
  have e : ((splice (zeros 64) 0 [114, 105, 110, 103, 1]).set 5 64).set 6 0 = markL := by decide
  have h5 := HBK.out.setRow (((splice (zeros 64) 0 [114, 105, 110, 103, 1]).set 5 64))
  refine ⟨_, rfl, ?_, ?_⟩
  · rw [HBK.out.setCell, h5.setCell, setRow_setRow, e]
    exact ob_of_bk (HBK.out.setRow markL) (Nat.le_refl _) (by decide) rfl
  · exact (HB2.out.setCell (Nat.le_refl _) _).setCell (Nat.le_refl _) _
end Go.Proofs.YtnbhohaphmilmaaGreatDoor
namespace Go.Proofs.YtnbhohaphmilmaaGreatDoor
open Go.RowKit
set_option linter.unusedVariables false
set_option linter.unusedSimpArgs false
attribute [local go_sem ↓] mkB_eq
set_option maxRecDepth 100000 in
set_option maxHeartbeats 400000 in
theorem qright_is (w : World) : Calls Tryz.prog 199 #[.slice none 0 0] w fun e w' => e = .returned (.int .i64 0) ∧ w = w' := by
  go_enter Tryz.func199, Tryz.ntmps199
  go_wp2_with fail
  refine wp_loop_rounds 1 ?_
  rw [rounds_succ]
  go_wp2_with fail
  go_ret
  exact ⟨rfl, rfl⟩
set_option maxRecDepth 100000 in
set_option maxHeartbeats 400000 in
theorem qpack_is (w : World) : Calls Tryz.prog 122 #[.slice none 0 0] w fun e w' => ∃ v, e = .returned (.tuple #[v, .int .i64 0]) ∧ OB w.heap.size w' v (zeros 64) ∧ Below w.heap.size w w' := by
  have HR := Lib.hid (qright_is w)
  have hmk := mkB64 w
  have hb1 : BK (w.alloc (.cells ((zeros 64).map u8V).toArray 5)) w.heap.size (zeros 64) := bk_new w _
  have HB := Lib.hid (Go.Joins.below_alloc1 w (.cells ((zeros 64).map u8V).toArray 5))
  generalize w.alloc (.cells ((zeros 64).map u8V).toArray 5) = w1 at *
  have z0 : w1.cell? ⟨w.heap.size, 0, none⟩ = some (.int .u8 0) := hb1.cell (i := 0) (by decide)
  have f0 : w1.frozen? ⟨w.heap.size, 0, none⟩ = false := by have h := hb1; unfold BK at h; simp [World.frozen?, h]
  have HBK := Lib.hid hb1
  clear hb1
  go_enter Tryz.func122, Tryz.ntmps122
  go_wp2_with (go_at_call 199; refine HR.out.mono ?_; rintro e1 w2 ⟨rfl, rfl⟩)
  refine wp_loop_rounds 1 ?_
  rw [rounds_succ]
  go_wp2_with fail
  go_ret2
  refine ⟨_, rfl, ?_, HB.out.setCell (Nat.le_refl _) _⟩
  rw [HBK.out.setCell]
  exact ob_of_bk (HBK.out.setRow ((zeros 64).set 0 0)) (Nat.le_refl _) (by decide) rfl
set_option maxRecDepth 100000 in
set_option maxHeartbeats 400000 in
theorem qunpack_is {w : World} {v : Value} (hv : At (Value.int .u8) 0 w v (zeros 64)) : Calls Tryz.prog 66 #[v] w fun e w' => e = .returned (.tuple #[.slice none 0 0, .int .i64 0]) ∧ Below w.heap.size w w' := by
  have HV := Lib.hid hv
  obtain ⟨a, cap, rfl, hl, hcm, -⟩ := hv
  rw [zeros_len] at hl HV ⊢
  rcases At.cellB HV.out with e | ⟨b, o, rfl, hlt, hc⟩
  · cases e
  have c0 : w.cell? ⟨b, o, none⟩ = some (.int .u8 0) := hc 0 (by decide)
  have HP := Lib.hid (qpack_is w)
  clear hc hlt hcm
  go_enter Tryz.func66, Tryz.ntmps66
  go_wp2_with fail
  refine wp_loop_rounds 1 ?_
  rw [rounds_succ]
  go_upto_region 10 with (go_at_call 122; refine HP.out.mono ?_; rintro e5 w5 ⟨v5, rfl, ho5, hb5⟩)
  have HB5 := Lib.hid hb5
  have HEQ := Lib.hid (equalB_is (by decide) ho5.at (HV.out.keep hb5))
  clear HP ho5 hb5 c0
  go_wp2_with (go_at_call 62; refine HEQ.out.mono ?_; rintro e6 w6 ⟨rfl, hb6⟩)
  go_ret2
  exact ⟨rfl, HB5.out.trans (hb6.mono HB5.out.size)⟩
end Go.Proofs.YtnbhohaphmilmaaGreatDoor
namespace Go.Proofs.YtnbhohaphmilmaaGreatDoor
open Go.RowKit
set_option linter.unusedVariables false
set_option linter.unusedSimpArgs false
section
variable {w w' : World} {D sb nb m : Nat} {wv : Value} {s f : List Int}
set_option maxRecDepth 100000 in
set_option maxHeartbeats 400000 in
theorem region_is (h : Dk w D sb nb wv m 64 s f) : Calls Tryz.prog 196 #[.pointer (some ⟨D, 0, none⟩), .int .i64 5, .int .i64 32] w fun e w' => e = .returned (.int .i64 0) ∧ w = w' := by
  have HSZ := Lib.hid (size_is h)
  clear h
  go_enter Tryz.func196, Tryz.ntmps196
  go_wp2_with (go_at_call 54; refine HSZ.out.mono ?_; rintro e1 w1 ⟨rfl, rfl⟩)
  go_ret
  exact ⟨rfl, rfl⟩
set_option maxRecDepth 100000 in
set_option maxHeartbeats 400000 in
theorem scan_is (h : Dk w D sb nb wv m 64 s f) (hz : sect f 5 = zeros 64) : Calls Tryz.prog 118 #[.pointer (some ⟨D, 0, none⟩), .int .i64 5, .int .i64 32] w fun e w' => e = .returned (.tuple #[.slice none 0 0, .int .u32 0, .bool false, .int .i64 0]) ∧ Below w.heap.size w w' := by
  have HRG := Lib.hid (region_is h)
  have HRD := Lib.hid (read_is h (k := 5) (by decide))
  rw [hz] at HRD
  clear h hz
  go_enter Tryz.func118, Tryz.ntmps118
  go_upto_region 5 with (first | (go_at_call 196; refine HRG.out.mono ?_; rintro e1 w1 ⟨rfl, rfl⟩) | (go_at_call 61; refine HRD.out.mono ?_; rintro e1 w1 ⟨v1, rfl, ho1, hb1⟩))
  obtain ⟨p1, c1, rfl⟩ := own_form ho1
  have hat := at_of_owned (f := Value.int .u8) (d := 0) (xs := zeros 64) ho1
  rcases At.cellB hat with e | ⟨b, o, rfl, hlt, hc⟩
  · cases e
  have k0 : w1.cell? ⟨b, o, none⟩ = some (.int .u8 0) := hc 0 (by decide)
  have k5 : w1.cell? ⟨b, o + 5, none⟩ = some (.int .u8 0) := hc 5 (by decide)
  have HB := Lib.hid hb1
  clear hc hat ho1 hb1 hlt HRG HRD
  go_wp2_with fail
  exact bodyPost_ret (v := .tuple #[.slice none 0 0, .int .u32 0, .bool false, .int .i64 0]) (by rw [results_tmp4 rfl]; rfl) rfl ⟨rfl, HB.out⟩
set_option maxRecDepth 100000 in
set_option maxHeartbeats 400000 in
theorem jopen_is (h : Dk w D sb nb wv m 64 s f) (hz : sect f 5 = zeros 64) : Calls Tryz.prog 63 #[.pointer (some ⟨D, 0, none⟩), .int .i64 5, .int .i64 32] w fun e w' => ∃ L, e = .returned (.tuple #[.pointer (some ⟨L, 0, none⟩), .int .i64 0]) ∧ w.heap.size ≤ L ∧ w'.heap[L]? = some (.cells #[.pointer (some ⟨D, 0, none⟩), .int .i64 5, .int .i64 32, .int .u32 0] 264 (0, 0)) ∧ Below w.heap.size w w' := by
  have HSC := Lib.hid (scan_is h hz)
  clear h hz
  go_enter Tryz.func63, Tryz.ntmps63
  go_wp2_with (go_at_call 118; refine HSC.out.mono ?_; rintro e1 w1 ⟨rfl, hb1⟩)
  go_ret2
  exact ⟨_, rfl, hb1.size, heap_alloc_new _ _, hb1.alloc hb1.size _⟩
end
end Go.Proofs.YtnbhohaphmilmaaGreatDoor
namespace Go.Proofs.YtnbhohaphmilmaaGreatDoor
open Go.RowKit
set_option linter.unusedVariables false
set_option linter.unusedSimpArgs false
/-- the forest of a disk on which nothing is -/
def gF (j : Nat) : Nat := if j < 16 then 37 + j else if j = 20 then 224 else if j = 21 then 255 else if j = 22 then 31 else 0
theorem gF_lt (j : Nat) : gF j < 256 := by
  unfold gF
  repeat' split
  all_goals omega
theorem gF_zero {j : Nat} (h : 48 ≤ j) : gF j = 0 := by
  unfold gF
  rw [if_neg (by omega), if_neg (by omega), if_neg (by omega), if_neg (by omega)]
theorem treA_ext {G H : Nat → Nat} (h : ∀ j, j < 48 → G j = H j) : treA G = treA H := by
  apply Array.ext
  · simp [treA_size]
  · intro i h1 h2
    simp only [treA, Array.getElem_ofFn]
    rw [h i (by simpa [treA_size] using h1)]
theorem gF_fr : FR gF := ⟨fun k i _ _ => gF_lt _, fun k hk h0 => by
  have hk0 : k ≠ 0 := by
    rintro rfl
    exact absurd h0 (by decide)
  exact treA_ext fun j hj => gF_zero (by omega)⟩
theorem gF_fl : FL gF := ⟨gF_fr, gF_lt, by decide, fun k i hk hi h => by
  by_cases e : k = 0
  · subst e
    unfold gF
    rw [if_pos (by omega)]
    omega
  · exact absurd (gF_zero (by omega)) h⟩
/-- what lies on a disk on which nothing is -/
structure Fmt (f : List Int) : Prop where
  s0 : sect f 0 = markL
  s4 : sect f 4 = zeros 64
  s5 : sect f 5 = zeros 64
  fo : catS f 3 = pkS gF 4
  nd : NS f
theorem ld_for2 (v : Value) : Instr.loadAt 148 v = ldR 148 v := rfl
theorem bd_fs (ps : Array (Nat × Value)) : Instr.build 172 ps = bdR 172 ps := rfl
def fsA (d l v : Value) (a b : Nat) : Array Value := #[d, l] ++ forA gF ++ #[.slice none 0 0, v, .map (some a), .map (some b)]
theorem bd_run (w : World) (x y z : Option Addr) (n c : Nat) (a b : Nat) : (bdR 172 #[(0, .pointer x), (1, .pointer y), (2, .agg (forA gF)), (3, .slice none 0 0), (4, .slice z n c), (5, .map (some a)), (6, .map (some b))]).run Tryz.prog w = .ok (.agg (fsA (.pointer x) (.pointer y) (.slice z n c) a b)) w := by kernel_rfl
/-- a file system on which nothing is -/
structure FSw (w : World) (B F D L a : Nat) : Prop where
  f : ∃ z n c b, w.heap[F]? = some (.cells (fsA (.pointer (some ⟨D, 0, none⟩)) (.pointer (some ⟨L, 0, none⟩)) (.slice z n c) a b) 172 (0, 0))
  l : w.heap[L]? = some (.cells #[.pointer (some ⟨D, 0, none⟩), .int .i64 5, .int .i64 32, .int .u32 0] 264 (0, 0))
  m : w.heap[a]? = some (.map #[] 0)
  f0 : B ≤ F
  l0 : B ≤ L
  a0 : B ≤ a
theorem FSw.keep {w w' : World} {B F D L a : Nat} (h : FSw w B F D L a) (hb : Below w.heap.size w w') : FSw w' B F D L a := by
  have lt : ∀ {k o}, w.heap[k]? = some o → k < w.heap.size := fun h => (Array.getElem?_eq_some_iff.1 h).1
  obtain ⟨z, n, c, b, hF⟩ := h.f
  exact ⟨⟨z, n, c, b, (hb.block F (lt hF)).trans hF⟩, (hb.block L (lt h.l)).trans h.l, (hb.block a (lt h.m)).trans h.m, h.f0, h.l0, h.a0⟩
attribute [local go_sem ↓] ld_for ld_tre st_for bd_fs
section
variable {w w' : World} {D sb nb m : Nat} {wv : Value} {s f : List Int}
set_option maxRecDepth 100000 in
set_option maxHeartbeats 1000000 in
theorem mount_is (h : Dk w D sb nb wv m 64 s f) (hf : Fmt f) : Calls Tryz.prog 23 #[.pointer (some ⟨D, 0, none⟩)] w fun e w' => ∃ F L a, e = .returned (.tuple #[.pointer (some ⟨F, 0, none⟩), .int .i64 0]) ∧ FSw w' w.heap.size F D L a ∧ Below w.heap.size w w' := by
  have hmm := @run_makeMap Tryz.prog
  have HD := Lib.hid h
  have HF := Lib.hid hf
  have HRD := Lib.hid (read_is h (k := 0) (by decide))
  rw [hf.s0] at HRD
  have hz : Tryz.zeroCells148 = forA (fun _ => 0) := by kernel_rfl
  clear h hf
  go_enter Tryz.func23, Tryz.ntmps23
  go_upto_region 2 with (go_at_call 61; refine HRD.out.mono ?_; rintro e1 w1 ⟨v1, rfl, ho1, hb1⟩)
  have HD1 := Lib.hid (HD.out.keep hb1)
  have HB1 := Lib.hid hb1
  have HA1 := Lib.hid (at_of_owned (f := Value.int .u8) (d := 0) (xs := markL) ho1)
  have HSZ := Lib.hid (size_is HD1.out)
  have HMK := Lib.hid (mark_is w1)
  clear ho1 hb1 HRD HD
  go_upto_region 4 with (first | (go_at_call 54; refine HSZ.out.mono ?_; rintro e2 w2 ⟨rfl, rfl⟩) | (go_at_call 59; refine HMK.out.mono ?_; rintro e2 w2 ⟨v2, rfl, ho2, hb2⟩; have HD2 := Lib.hid (HD1.out.keep hb2); have HB2 := Lib.hid (HB1.out.trans (hb2.mono HB1.out.size)); have HEQ := Lib.hid (equalB_is (by decide) (HA1.out.keep hb2) ho2.at); clear ho2 hb2) | (go_at_call 62; refine HEQ.out.mono ?_; rintro e3 w3 ⟨rfl, hb3⟩; have HD3 := Lib.hid (HD2.out.keep hb3); have HB3 := Lib.hid (HB2.out.trans (hb3.mono HB2.out.size)); clear hb3))
  clear HD1 HD2 HB1 HB2 HA1 HSZ HMK HEQ
  have HJ := Lib.hid (jopen_is HD3.out HF.out.s5)
  go_upto_region 5 with (go_at_call 63; refine HJ.out.mono ?_; rintro e4 w4 ⟨L, rfl, hL, hlog, hb4⟩)
  have HD4 := Lib.hid (HD3.out.keep hb4)
  have HB4 := Lib.hid (HB3.out.trans (hb4.mono HB3.out.size))
  have HL4 : Hid (w.heap.size ≤ L) := Lib.hid (Nat.le_trans HB3.out.size hL)
  have HLL : Hid (Row w4 L 264 _) := Lib.hid hlog
  clear HD3 HB3 HJ hL hlog hb4
  have HCL := Lib.hid (cload_is HD4.out gF_fl HF.out.fo)
  have HSA := Lib.hid (forA_size gF)
  have HZS := Lib.hid (forA_size (fun _ => 0))
  have HO1 := Lib.hid (forA_one gF)
  have hbd := bd_run
  obtain ⟨Z, hZ⟩ : ∃ Z, Z = forA (fun _ => 0) := ⟨_, rfl⟩
  rw [← hZ] at hz HZS
  obtain ⟨A, hA⟩ : ∃ A, A = forA gF := ⟨_, rfl⟩
  rw [← hA] at HCL HSA HO1 hbd
  have HAE := Lib.hid hA
  clear hA hZ
  go_upto_region 8 with (go_at_call 64; refine HCL.out.mono ?_; rintro e5 w5 ⟨rfl, hb5⟩; have st5 := st0_new w5 (T := 148) (c := Z) (cs := A) (by rw [HSA.out, HZS.out]) (by rw [HSA.out]; kernel_rfl) HO1.out)
  have HR5 := Lib.hid (row_new w5 148 A)
  have hal := (hb5.trans ((Go.Joins.below_alloc1 w5 (.cells A 148)).mono hb5.size))
  have HD5 := Lib.hid (HD4.out.keep hal)
  have HB5 := Lib.hid (HB4.out.trans (hal.mono HB4.out.size))
  have HL5 := Lib.hid (HLL.out.keep hal)
  clear HD4 HB4 HLL HCL hal hb5 st5
  generalize w5.alloc (.cells A 148) = w6 at *
  have l6 : (ldR 146 (.pointer (some ⟨w5.heap.size, 0, none⟩))).run Tryz.prog w6 = .ok (.agg (treA gF)) w6 := by
    have := HR5.out.ld (o := 0) (n := 48) (by rw [HSA.out]; decide) Tryz.underlying146 rfl (by kernel_rfl)
    have e := forA_tre gF (k := 0) (by decide)
    rw [Nat.zero_mul] at e
    rw [HAE.out, e] at this
    simpa using this
  have HCT := Lib.hid (ctree_is HD5.out HF.out.nd (G := gF) (fun i hi => by unfold gF; rw [if_pos hi]))
  generalize treA gF = T0 at *
  go_upto_region 11 with (go_at_call 65; refine HCT.out.mono ?_; rintro e7 w7 ⟨v7, rfl, ho7, hb7⟩)
  have HD7 := Lib.hid (HD5.out.keep hb7)
  have HB7 := Lib.hid (HB5.out.trans (hb7.mono HB5.out.size))
  have HL7 := Lib.hid (HL5.out.keep hb7)
  have HR7 := Lib.hid (HR5.out.keep hb7)
  have HN7 := Lib.hid ho7
  clear HD5 HB5 HL5 HR5 HCT l6 ho7 hb7
  have HRQ := Lib.hid (read_is HD7.out (k := 4) (by decide))
  rw [HF.out.s4] at HRQ
  go_upto_region 14 with (go_at_call 61; refine HRQ.out.mono ?_; rintro e8 w8 ⟨v8, rfl, ho8, hb8⟩)
  have HB8 := Lib.hid (HB7.out.trans (hb8.mono HB7.out.size))
  have HL8 := Lib.hid (HL7.out.keep hb8)
  have HR8 := Lib.hid (HR7.out.keep hb8)
  have HN8 := Lib.hid (HN7.out.keep hb8)
  have HQU := Lib.hid (qunpack_is (at_of_owned (f := Value.int .u8) (d := 0) (xs := zeros 64) ho8))
  clear HD7 HB7 HL7 HR7 HN7 HRQ ho8 hb8
  go_upto_region 15 with (go_at_call 66; refine HQU.out.mono ?_; rintro e9 w9 ⟨rfl, hb9⟩)
  have HB9 := Lib.hid (HB8.out.trans (hb9.mono HB8.out.size))
  have HL9 := Lib.hid (HL8.out.keep hb9)
  have hr9 := HR8.out.keep hb9
  have HN9 := Lib.hid (HN8.out.keep hb9)
  have l9 := hr9.ld0 Tryz.underlying148 rfl (by rw [HSA.out]; kernel_rfl)
  clear HB8 HL8 HR8 HN8 HQU hb9 hr9
  obtain ⟨p7, c7, rfl⟩ := own_form HN9.out
  go_upto_region 18 with fail
  have hal : Below w9.heap.size w9 (((w9.alloc (.map #[] 0)).alloc (.map #[] 0)).alloc (.cells (fsA (.pointer (some ⟨D, 0, none⟩)) (.pointer (some ⟨L, 0, none⟩)) (.slice p7 32 c7) w9.heap.size (w9.heap.size + 1)) 172)) := (((Below.refl _ _).alloc (Nat.le_refl _) _).alloc (by simp) _).alloc (by simp; omega) _
  have HFS : Hid (FSw (((w9.alloc (.map #[] 0)).alloc (.map #[] 0)).alloc (.cells (fsA (.pointer (some ⟨D, 0, none⟩)) (.pointer (some ⟨L, 0, none⟩)) (.slice p7 32 c7) w9.heap.size (w9.heap.size + 1)) 172)) w.heap.size (w9.heap.size + 2) D L w9.heap.size) := Lib.hid (by
    have h0 := HB9.out.size
    refine ⟨⟨p7, 32, c7, w9.heap.size + 1, ?_⟩, ?_, ?_, by omega, HL4.out, h0⟩
    · have := heap_alloc_new ((w9.alloc (.map #[] 0)).alloc (.map #[] 0)) (.cells (fsA (.pointer (some ⟨D, 0, none⟩)) (.pointer (some ⟨L, 0, none⟩)) (.slice p7 32 c7) w9.heap.size (w9.heap.size + 1)) 172)
      simpa using this
    · exact HL9.out.keep hal
    · rw [Below.heap_alloc _ _ _ (by simp; omega), Below.heap_alloc _ _ _ (by simp)]
      exact heap_alloc_new _ _)
  have HB10 := Lib.hid (HB9.out.trans (hal.mono HB9.out.size))
  have HN10 := Lib.hid (HN9.out.keep hal)
  clear hal HB9 HL9 HN9 l9
  generalize ((w9.alloc (.map #[] 0)).alloc (.map #[] 0)).alloc (.cells (fsA (.pointer (some ⟨D, 0, none⟩)) (.pointer (some ⟨L, 0, none⟩)) (.slice p7 32 c7) w9.heap.size (w9.heap.size + 1)) 172) = w10 at *
  have HLO := Lib.hid (lost_is HN10.out)
  go_upto_region 19 with (go_at_call 67; refine HLO.out.mono ?_; rintro e11 w11 ⟨rfl, hb11⟩)
  have HB11 := Lib.hid (HB10.out.trans (hb11.mono HB10.out.size))
  have HFS11 := Lib.hid (HFS.out.keep hb11)
  clear hb11 HLO HB10 HN10 HFS
  refine wp_loop_rounds 1 ?_
  rw [rounds_succ]
  go_wp2_with fail
  go_ret2
  exact ⟨_, _, _, rfl, HFS11.out, HB11.out⟩
end
end Go.Proofs.YtnbhohaphmilmaaGreatDoor
namespace Go.Proofs.YtnbhohaphmilmaaGreatDoor
open Go.RowKit
set_option linter.unusedVariables false
set_option linter.unusedSimpArgs false
theorem putS_get {f l : List Int} {k : Nat} (hf : f.length = 64 * 64) (hk : k < 64) (hl : l.length = 64) (j : Nat) : (putS f k l).getD j 0 = if k * 64 ≤ j ∧ j < k * 64 + 64 then l.getD (j - k * 64) 0 else f.getD j 0 := by
  unfold putS splice
  have h1 : (f.take (k * 64)).length = k * 64 := by rw [List.length_take]; omega
  simp only [List.getD_eq_getElem?_getD]
  by_cases h : j < k * 64
  · rw [if_neg (by omega), List.getElem?_append_left (by omega), List.getElem?_take, if_pos h]
  · rw [List.getElem?_append_right (by omega), h1]
    by_cases h2 : j < k * 64 + 64
    · rw [if_pos (by omega), List.getElem?_append_left (by omega)]
    · rw [if_neg (by omega), List.getElem?_append_right (by omega), List.getElem?_drop, hl]
      congr 2
      omega
theorem sect_ext {f : List Int} {k : Nat} {l : List Int} (hf : f.length = 64 * 64) (hk : k < 64) (hl : l.length = 64) (h : ∀ j, j < 64 → f.getD (k * 64 + j) 0 = l.getD j 0) : sect f k = l := by
  apply List.ext_getElem
  · rw [sect_len hf hk, hl]
  · intro i h1 h2
    have hi : i < 64 := by rw [hl] at h2; exact h2
    have := h i hi
    rw [← sect_get hi] at this
    simp only [List.getD_eq_getElem?_getD, List.getElem?_eq_getElem h1, List.getElem?_eq_getElem h2, Option.getD_some] at this
    exact this
theorem sect_same {f l : List Int} {k : Nat} (hf : f.length = 64 * 64) (hk : k < 64) (hl : l.length = 64) : sect (putS f k l) k = l :=
  sect_ext (putS_len hf hk hl) hk hl fun j hj => by rw [putS_get hf hk hl, if_pos (by omega), show k * 64 + j - k * 64 = j by omega]
theorem sect_other {f l : List Int} {k i : Nat} (hf : f.length = 64 * 64) (hk : k < 64) (hi : i < 64) (hl : l.length = 64) (h : i ≠ k) : sect (putS f k l) i = sect f i :=
  sect_ext (putS_len hf hk hl) hi (sect_len hf hi) fun j hj => by
    rw [putS_get hf hk hl, sect_get hj]
    split
    · omega
    · rfl
theorem put_zeros (k : Nat) (hk : k < 64) : putS (zeros 4096) k (zeros 64) = zeros 4096 := by
  have hf : (zeros 4096).length = 64 * 64 := zeros_len _
  have hl : (zeros 64).length = 64 := zeros_len _
  apply List.ext_getElem
  · rw [putS_len hf hk hl, hf]
  · intro i h1 h2
    have h := putS_get hf hk hl i
    rw [zeros_get, zeros_get, ite_self] at h
    have e := zeros_get 4096 i
    simp only [List.getD_eq_getElem?_getD, List.getElem?_eq_getElem h1, List.getElem?_eq_getElem h2, Option.getD_some] at h e
    rw [h, e]
/-- what lies on a disk on which nothing is -/
def fmtL : List Int := putS (putS (putS (putS (putS (zeros 4096) 1 (((pkS gF 4).drop 0).take 64)) 2 (((pkS gF 4).drop 64).take 64)) 3 (((pkS gF 4).drop 128).take 64)) 37 (rootL ++ zeros 32)) 0 markL
theorem rootL_len : rootL.length = 32 := rfl
theorem pk_part (o : Nat) (h : o + 64 ≤ 192) : (((pkS gF 4).drop o).take 64).length = 64 := by
  rw [List.length_take, List.length_drop, pkS_len]
  omega
theorem fmt_is : Fmt fmtL ∧ fmtL.length = 64 * 64 := by
  have h0 : (zeros 4096).length = 64 * 64 := zeros_len _
  have l1 := pk_part 0 (by decide)
  have l2 := pk_part 64 (by decide)
  have l3 := pk_part 128 (by decide)
  have lr : (rootL ++ zeros 32).length = 64 := by rw [List.length_append, rootL_len, zeros_len]
  have lm := markL_len
  have h1 := putS_len h0 (k := 1) (by decide) l1
  have h2 := putS_len h1 (k := 2) (by decide) l2
  have h3 := putS_len h2 (k := 3) (by decide) l3
  have h4 := putS_len h3 (k := 37) (by decide) lr
  have h5 := putS_len h4 (k := 0) (by decide) lm
  have oth : ∀ i, i < 64 → i ≠ 0 → i ≠ 1 → i ≠ 2 → i ≠ 3 → i ≠ 37 → sect fmtL i = zeros 64 := fun i hi a0 a1 a2 a3 a4 => by
    unfold fmtL
    rw [sect_other h4 (by decide) hi lm a0, sect_other h3 (by decide) hi lr a4, sect_other h2 (by decide) hi l3 a3, sect_other h1 (by decide) hi l2 a2, sect_other h0 (by decide) hi l1 a1]
    exact sect_ext h0 hi (zeros_len _) fun j hj => by rw [zeros_get, zeros_get]
  have s1 : sect fmtL 1 = ((pkS gF 4).drop 0).take 64 := by
    unfold fmtL
    rw [sect_other h4 (by decide) (by decide) lm (by decide), sect_other h3 (by decide) (by decide) lr (by decide), sect_other h2 (by decide) (by decide) l3 (by decide), sect_other h1 (by decide) (by decide) l2 (by decide), sect_same h0 (by decide) l1]
  have s2 : sect fmtL 2 = ((pkS gF 4).drop 64).take 64 := by
    unfold fmtL
    rw [sect_other h4 (by decide) (by decide) lm (by decide), sect_other h3 (by decide) (by decide) lr (by decide), sect_other h2 (by decide) (by decide) l3 (by decide), sect_same h1 (by decide) l2]
  have s3 : sect fmtL 3 = ((pkS gF 4).drop 128).take 64 := by
    unfold fmtL
    rw [sect_other h4 (by decide) (by decide) lm (by decide), sect_other h3 (by decide) (by decide) lr (by decide), sect_same h2 (by decide) l3]
  have s37 : sect fmtL 37 = rootL ++ zeros 32 := by
    unfold fmtL
    rw [sect_other h4 (by decide) (by decide) lm (by decide), sect_same h3 (by decide) lr]
  refine ⟨⟨?_, oth 4 (by decide) (by decide) (by decide) (by decide) (by decide) (by decide), oth 5 (by decide) (by decide) (by decide) (by decide) (by decide) (by decide), ?_, ?_⟩, h5⟩
  · unfold fmtL
    exact sect_same h4 (by decide) lm
  · show (([] ++ sect fmtL (1 + 0)) ++ sect fmtL (1 + 1)) ++ sect fmtL (1 + 2) = pkS gF 4
    rw [s1, s2, s3, List.nil_append]
    have e1 : ∀ (L : List Int), L.length = 192 → (L.drop 0).take 64 ++ (L.drop 64).take 64 ++ (L.drop 128).take 64 = L := fun L hL => by
      have a1 : (L.drop 128).take 64 = L.drop 128 := List.take_of_length_le (by rw [List.length_drop]; omega)
      have a2 : (L.drop 64).take 64 ++ L.drop 128 = L.drop 64 := by
        have := List.take_append_drop 64 (L.drop 64)
        rw [List.drop_drop] at this
        exact this
      rw [a1, List.append_assoc, a2, List.drop_zero, List.take_append_drop]
    exact e1 _ (pkS_len _ _)
  · intro i h hi hh j hj
    have hs : fmtL.getD ((37 + i) * 64 + (32 * h + j)) 0 = (sect fmtL (37 + i)).getD (32 * h + j) 0 := (sect_get (by omega)).symm
    rw [hs]
    by_cases e : i = 0
    · subst e
      rw [s37]
      unfold nodeB
      have h01 : h = 0 ∨ h = 1 := by omega
      rcases h01 with rfl | rfl
      · rw [if_pos rfl, List.getD_eq_getElem?_getD, List.getElem?_append_left (by rw [rootL_len]; omega), ← List.getD_eq_getElem?_getD, show 32 * 0 + j = j by omega]
      · rw [if_neg (by decide), List.getD_eq_getElem?_getD, List.getElem?_append_right (by rw [rootL_len]; omega), ← List.getD_eq_getElem?_getD, zeros_get, zeros_get]
    · rw [oth (37 + i) (by omega) (by omega) (by omega) (by omega) (by omega) (by omega), zeros_get]
      unfold nodeB
      rw [if_neg (by omega), zeros_get]
def appZ := Builtin.append_ #[54, 3] 54
theorem appZ_eq : Builtin.append_ #[54, 3] 54 = appZ := rfl
/-- zeros behind a slice that is full -/
theorem run_appZ {w : World} {g : Nat} {l : List Int} (h : At (Value.int .u8) 0 w (.slice (some ⟨g, 0, none⟩) 32 32) l) (hl : l.length = 32) : ∃ c w', (appZ #[.slice (some ⟨g, 0, none⟩) 32 32, .int .i64 32]).run Tryz.prog w = .ok (.slice (some ⟨w.heap.size, 0, none⟩) 64 c) w' ∧ At (Value.int .u8) 0 w' (.slice (some ⟨w.heap.size, 0, none⟩) 64 c) (l ++ zeros 32) ∧ Below w.heap.size w w' ∧ w.heap.size < w'.heap.size := by
  obtain ⟨i0, hi, hz0, hz1, hz2⟩ := info_parts info5
  have hw := h.keep (Below.refl _ _).drew
  have hold : (Builtin.firstCells i0.size 32 (.slice (some ⟨g, 0, none⟩) 32 32)).run Tryz.prog w.drew = .ok (l.map u8V).toArray w.drew := by
    rw [hz1]
    exact run_firstCells_some (P := Tryz.prog) (w := w.drew) 1 32 ⟨g, 0, none⟩ 32 32 (l.map u8V) (by simp [hl]) (by
      rcases At.cellB hw with e | ⟨b, o, e, -, hc⟩
      · rw [e] at hl; cases hl
      · injection e with e
        injection e with e1 e2 _
        subst e1
        subst e2
        exact cells_u8 hc)
  have hr := Lib.run_append_grow_zeros (P := Tryz.prog) w 54 3 54 5 i0 (.int .u8 0) .i64 .i64 Tryz.underlying54 Tryz.underlying3 hi hz0 (some ⟨g, 0, none⟩) 32 32 (l.map u8V) hold 32 (by decide) (by rw [hz1]; decide) (by decide) (by decide) (by rw [hz2]; decide) (by rw [hz2]; decide)
  have hge := grownCap_ge w (32 + 32) 32 5
  have hle := grownCap_le_maxLen w (32 + 32) 32 5 (by decide)
  refine ⟨_, _, hr, ⟨some ⟨w.heap.size, 0, none⟩, grownCap w (32 + 32) 32 5, by rw [List.length_append, hl, zeros_len], by rw [List.length_append, hl, zeros_len]; exact hge, hle, .inr ⟨w.heap.size, 0, rfl, by simp, fun i hi => ?_⟩⟩, (Below.refl _ _).drew.alloc (Nat.le_refl _) _, by simp⟩
  have hi64 : i < 64 := by rw [List.length_append, hl, zeros_len] at hi; exact hi
  have hnew := cell_of_row (w.drew.alloc (.cells ((l.map u8V).toArray ++ Builtin.zeroCells (Value.cells (.int .u8 0)) 32 ++ Builtin.zeroCells (Value.cells (.int .u8 0)) (grownCap w (32 + 32) 32 5 - (32 + 32))) 5)) w.heap.size i _ 5 (0, 0) (heap_alloc_new w.drew _)
  rw [Nat.zero_add, hnew]
  have hzc : (Builtin.zeroCells (Value.cells (.int .u8 0)) 32).size = 32 := by simp [Builtin.zeroCells, Value.cells]
  rw [Array.getElem?_append_left (by simp [hl, hzc]; exact hi64)]
  by_cases h32 : i < 32
  · rw [Array.getElem?_append_left (by simp [hl]; exact h32)]
    have e : (l ++ zeros 32).getD i 0 = l.getD i 0 := by
      rw [List.getD_eq_getElem?_getD, List.getElem?_append_left (by rw [hl]; exact h32), ← List.getD_eq_getElem?_getD]
    rw [e]
    simp [List.getD, hl, h32]
  · rw [Array.getElem?_append_right (by simp [hl]; omega)]
    have e : (l ++ zeros 32).getD i 0 = 0 := by
      rw [List.getD_eq_getElem?_getD, List.getElem?_append_right (by rw [hl]; omega), ← List.getD_eq_getElem?_getD, zeros_get]
    rw [e]
    have h31 : i - 32 < 32 := by omega
    simp [Builtin.zeroCells, Value.cells, hl, h31, Nat.mod_one]
end Go.Proofs.YtnbhohaphmilmaaGreatDoor
