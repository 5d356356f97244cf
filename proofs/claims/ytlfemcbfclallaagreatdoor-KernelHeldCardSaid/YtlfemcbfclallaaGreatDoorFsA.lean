/- Walks of the kernel at any process that lives: living, between, Ask's closure, do, Ask; process's switch. A kernel that has begun, as one state. Maps with int keys, by a code of their elements: as functions. The maps of package fs. -/
import Derived.Test.YtlfemcbfclallaaGreatDoorKerQ
import Derived.Test.YtlfemcbfclallaaGreatDoorDisk
namespace Go.Proofs.YtlfemcbfclallaaGreatDoor
open Go.RowKit
set_option linter.unusedVariables false
set_option linter.unusedSimpArgs false
structure Awake (s : KSt) (p : Nat) : Prop where
  p1 : 1 ≤ p
  p16 : p ≤ 16
  lv : (s.t p).st = 1
  sl : s.c (8 + p * 38 + 37) = .bool false
  sg : ∀ j, j < 18 → s.c (8 + p * 38 + 19 + j) = .int .i64 0
section
variable {w w0 : World} {k : KC} {s : KSt} {p : Nat}
theorem sig_cellsP {c : Nat → Value} {o : Nat} (ho : o + 18 ≤ 655) (h : ∀ j, j < 18 → c (o + j) = .int .i64 0) : (kerA c).extract o (o + 18) = SigLaw.cellsA SigLaw.zeroG := by
  apply Array.ext
  · simp [kerA_size]; rw [Nat.min_eq_left ho]; simp; rfl
  · intro i h1 h2
    have hi : i < 18 := by simp [kerA_size] at h1; omega
    simp only [Array.getElem_extract, kerA, Array.getElem_ofFn]
    rw [h i hi]
    have : i = 0 ∨ i = 1 ∨ i = 2 ∨ i = 3 ∨ i = 4 ∨ i = 5 ∨ i = 6 ∨ i = 7 ∨ i = 8 ∨ i = 9 ∨ i = 10 ∨ i = 11 ∨ i = 12 ∨ i = 13 ∨ i = 14 ∨ i = 15 ∨ i = 16 ∨ i = 17 := by omega
    rcases this with rfl | rfl | rfl | rfl | rfl | rfl | rfl | rfl | rfl | rfl | rfl | rfl | rfl | rfl | rfl | rfl | rfl | rfl <;> rfl
set_option maxRecDepth 100000 in
set_option maxHeartbeats 400000 in
theorem livingP_is (h : KT w k s) (h1 : 1 ≤ p) (h16 : p ≤ 16) (hl : (s.t p).st = 1) : Calls Tryz.prog 13 #[.pointer (some ⟨k.K, 0, none⟩), .int .i64 p] w fun e w' => e = .returned (.int .i64 0) ∧ w = w' := by
  have q7 : w.cell? ⟨k.K, 7, none⟩ = some (.pointer (some ⟨k.Pr, 0, none⟩)) := by rw [h.kr.cell (by decide), h.c7]
  have HS := Lib.hid (ProcLaw.state_is (k := p) h.pr h1 h16)
  rw [hl] at HS
  clear h hl
  go_enter Tryz.func13, Tryz.ntmps13
  go_wp2_with (go_at_call 34; refine HS.out.mono ?_; rintro e1 w1 ⟨rfl, rfl⟩)
  go_ret
  exact ⟨rfl, rfl⟩
attribute [local go_sem ↓] ld_sig st_sig
theorem KT.ldsig (h : KT w k s) (hp : p ≤ 16) (hg : ∀ j, j < 18 → s.c (8 + p * 38 + 19 + j) = .int .i64 0) : (ldR 59 (.pointer (some ⟨k.K, 8 + p * 38 + 19, none⟩))).run Tryz.prog w = .ok (.agg (SigLaw.cellsA SigLaw.zeroG)) w := by
  rw [Row.ld h.kr (o := 8 + p * 38 + 19) (n := 18) (by rw [kerA_size]; omega) Tryz.underlying59 rfl (by kernel_rfl), sig_cellsP (by omega) hg]
set_option maxRecDepth 100000 in
set_option maxHeartbeats 400000 in
theorem betweenP_is (h : KT w k s) (ha : Awake s p) : Calls Tryz.prog 15 #[.pointer (some ⟨k.K, 0, none⟩), .int .i64 p] w fun e w' => e = .returned (.tuple #[.int .i64 0, .bool false]) ∧ Below w.heap.size w w' := by
  have l1 := h.ldsig ha.p16 ha.sg
  have i0 : (p : Int) < 17 := by have := ha.p16; omega
  have HT := Lib.hid (SigLaw.take_is SigLaw.zeroG 0 0 w ⟨⟨by decide, by decide⟩, by decide, by decide⟩ sig_right)
  have HST := Lib.hid (fun (w : World) (g : SigLaw.G) => st0_new w (T := 59) (c := #[.int .i64 0, .int .i64 0, .int .i64 0, .int .i64 0, .int .i64 0, .int .i64 0, .int .i64 0, .int .i64 0, .int .i64 0, .int .i64 0, .int .i64 0, .int .i64 0, .int .i64 0, .int .i64 0, .int .i64 0, .int .i64 0, .int .i64 0, .int .i64 0]) (cs := SigLaw.cellsA g) rfl (by kernel_rfl) (SigLaw.cellsA_one g))
  clear h ha
  generalize SigLaw.cellsA SigLaw.zeroG = ZG at *
  go_enter Tryz.func15, Tryz.ntmps15
  go_wp2_with (go_at_call 35; refine HT.out.mono ?_; rintro e1 w1 ⟨hb1, h1⟩; (rcases h1 with ⟨g1, n1, h1, rfl⟩ | ⟨k, _, _, hk, _⟩; rotate_left; exact absurd hk (by simp)); have st1 := HST.out w1 g1; have HB1 := Lib.hid (hb1.trans ((Go.Joins.below_alloc1 w1 (.cells (SigLaw.cellsA g1) 59)).mono hb1.size)); clear hb1; generalize SigLaw.cellsA g1 = C1 at *)
  go_ret2
  exact ⟨rfl, HB1.out⟩
end
section
variable {w0 w : World} {Out : World → Array Value → World → Prop} {k : KC} {s : KSt} {p b0 b1 b2 : Nat} {A : Array Value}
attribute [local go_sem ↓] ld_ans st_ans ld_call
set_option maxRecDepth 100000 in
set_option maxHeartbeats 400000 in
theorem ask1P_is {K : Nat} {q : Int} (ok : OutOk w0 Out) (h0 : Below w0.heap.size w0 w) (c0 : w.cell? ⟨b0, 0, none⟩ = some (.pointer (some ⟨K, 0, none⟩))) (c1 : w.cell? ⟨b1, 0, none⟩ = some (.int .i64 q)) (hr : Row w b2 37 A) (hA : A.size = 7) (hs : Spec w0 Out 18 #[.pointer (some ⟨K, 0, none⟩), .int .i64 q, .agg A]) :
    Calls Tryz.prog 17 #[.pointer (some ⟨b0, 0, none⟩), .pointer (some ⟨b1, 0, none⟩), .pointer (some ⟨b2, 0, none⟩)] w (Res w0 Out w) := by
  have hal := Go.Joins.below_alloc1 w (.cells ansZ 34)
  have d0 : (w.alloc (.cells ansZ 34)).cell? ⟨b0, 0, none⟩ = some (.pointer (some ⟨K, 0, none⟩)) := (hal.cell (p := ⟨b0, 0, none⟩) (World.block_lt_of_cell? w _ c0)).trans c0
  have d1 : (w.alloc (.cells ansZ 34)).cell? ⟨b1, 0, none⟩ = some (.int .i64 q) := (hal.cell (p := ⟨b1, 0, none⟩) (World.block_lt_of_cell? w _ c1)).trans c1
  have l2 := ld_callR (hr.keep hal) hA
  have HR := Lib.hid (row_new w 34 ansZ)
  have HB := Lib.hid hal
  have HC := Lib.hid (hs _ (h0.trans (hal.mono h0.size)))
  have HOK := Lib.hid ok
  have H0 := Lib.hid h0
  clear hal hr hA hs ok h0 c0 c1
  have hz : ansZ = #[.int .i64 0, .int .i64 0, .int .i64 0, .slice none 0 0, .slice none 0 0, .int .i64 0, .int .i64 0, .int .i64 0, .int .i64 0, .int .i64 0, .int .i64 0] := rfl
  rw [hz] at d0 d1 l2 HB HC
  go_enter Tryz.func17, Tryz.ntmps17
  go_wp2_with (go_at_call 18; refine HC.out.mono ?_; rintro e2 w2 ⟨X, rfl, hX, hone, hu, ho⟩; have hr := ans_row H0.out HR.out (Nat.le_refl _) hu; have hst := ans_st hr hX hone; have HLD := Lib.hid (ans_ldV hr hX); have HP := Lib.hid (HOK.out.put (C := X) H0.out HB.out hu ho (Nat.le_refl _) HR.out.lt); have HX := Lib.hid (And.intro hX hone); clear hr hX hone hu ho; generalize w2.setRow w.heap.size X = w3 at *)
  exact bodyPost_ret (v := .agg X) (by rw [results_cell1 rfl]; simp [asAddr, Result.andThen, HLD.out]) rfl ⟨X, rfl, HX.out.1, HX.out.2, HP.out.1, HP.out.2⟩
set_option maxRecDepth 100000 in
set_option maxHeartbeats 1000000 in
theorem doP_is {K : Nat} {q : Int} (ok : OutOk w0 Out) {num : Int} (hn : num = 1 ∨ num = 2 ∨ num = 4 ∨ num = 23) (hA : A.size = 7) (ha : A[0]? = some (.int .i64 num)) (hs : Spec w0 Out 40 #[.pointer (some ⟨K, 0, none⟩), .int .i64 q, .agg A]) :
    Spec w0 Out 18 #[.pointer (some ⟨K, 0, none⟩), .int .i64 q, .agg A] := by
  intro w h0
  have hb1 := Go.Joins.below_alloc1 w (.cells A 37)
  have hal : Below w.heap.size w ((w.alloc (.cells A 37)).alloc (.cells ansZ 34)) := hb1.trans ((Go.Joins.below_alloc1 _ _).mono hb1.size)
  have hr1 := (row_new w 37 A).alloc (.cells ansZ 34)
  have hr2 := row_new (w.alloc (.cells A 37)) 34 ansZ
  rw [size_alloc1] at hr2
  have d0 : ((w.alloc (.cells A 37)).alloc (.cells ansZ 34)).cell? ⟨w.heap.size, 0, none⟩ = some (.int .i64 num) := by rw [hr1.cell, ha]
  have l2 := ld_callR hr1 hA
  have HR : Hid (Row ((w.alloc (.cells A 37)).alloc (.cells #[.int .i64 0, .int .i64 0, .int .i64 0, .slice none 0 0, .slice none 0 0, .int .i64 0, .int .i64 0, .int .i64 0, .int .i64 0, .int .i64 0, .int .i64 0] 34)) (w.heap.size + 1) 34 ansZ) := Lib.hid hr2
  have HB := Lib.hid hal
  have HC := Lib.hid (hs _ (h0.trans (hal.mono h0.size)))
  have HOK := Lib.hid ok
  have H0 := Lib.hid h0
  have HLT := Lib.hid hr2.lt
  clear hal hr1 hr2 hA hs ok h0 ha hb1
  have hz : ansZ = #[.int .i64 0, .int .i64 0, .int .i64 0, .slice none 0 0, .slice none 0 0, .int .i64 0, .int .i64 0, .int .i64 0, .int .i64 0, .int .i64 0, .int .i64 0] := rfl
  rw [hz] at d0 l2 HB HC HLT
  rcases hn with rfl | rfl | rfl | rfl
  all_goals
    go_enter Tryz.func18, Tryz.ntmps18
    go_upto_region 1 with fail
    generalize (w.alloc (.cells A 37)).alloc (.cells #[.int .i64 0, .int .i64 0, .int .i64 0, .slice none 0 0, .slice none 0 0, .int .i64 0, .int .i64 0, .int .i64 0, .int .i64 0, .int .i64 0, .int .i64 0] 34) = w1 at *
    go_wp2_with (go_at_call 40; refine HC.out.mono ?_; rintro e2 w2 ⟨X, rfl, hX, hone, hu, ho⟩; have hr := ans_row H0.out HR.out (Nat.le_succ _) hu; have hst := ans_st hr hX hone; have HLD := Lib.hid (ans_ldV hr hX); have HP := Lib.hid (HOK.out.put (C := X) H0.out HB.out hu ho (Nat.le_succ _) HLT.out); have HX := Lib.hid (And.intro hX hone); clear hr hX hone hu ho; generalize w2.setRow (w.heap.size + 1) X = w3 at *)
    exact bodyPost_ret (v := .agg X) (by rw [results_cell1 rfl]; simp [asAddr, Result.andThen, HLD.out]) rfl ⟨X, rfl, HX.out.1, HX.out.2, HP.out.1, HP.out.2⟩
set_option maxRecDepth 100000 in
set_option maxHeartbeats 1000000 in
theorem askP_is (ok : OutOk w0 Out) (h0 : Below w0.heap.size w0 w) (hk : KT w k s) (haw : Awake s p) (hA : A.size = 7) (hs : Spec w0 Out 18 #[.pointer (some ⟨k.K, 0, none⟩), .int .i64 p, .agg A]) :
    Calls Tryz.prog 7 #[.pointer (some ⟨k.K, 0, none⟩), .int .i64 p, .agg A] w (Res w0 Out w) := by
  have hmf : ∀ (fn : Fn) (first cap : Array Value) (w : World), (Instr.makeFunc fn first cap).run Tryz.prog w = .ok (.func fn first cap) w := fun _ _ _ _ => rfl
  have ha : ∀ (w : World) (o1 o2 o3 o4 : Obj), Below w.heap.size w ((((w.alloc o1).alloc o2).alloc o3).alloc o4) ∧ ((((w.alloc o1).alloc o2).alloc o3).alloc o4).heap[w.heap.size]? = some o1 ∧ ((((w.alloc o1).alloc o2).alloc o3).alloc o4).heap[w.heap.size + 1]? = some o2 ∧ ((((w.alloc o1).alloc o2).alloc o3).alloc o4).heap[w.heap.size + 1 + 1]? = some o3 ∧ ((((w.alloc o1).alloc o2).alloc o3).alloc o4).heap[w.heap.size + 1 + 1 + 1]? = some o4 := fun w o1 o2 o3 o4 => by
    have s1 := size_alloc1 w o1
    have s2 := size_alloc1 (w.alloc o1) o2
    have s3 := size_alloc1 ((w.alloc o1).alloc o2) o3
    refine ⟨(((Below.refl _ _).alloc (Nat.le_refl _) _).alloc (by omega) _).alloc (by omega) _ |>.alloc (by omega) _, ?_, ?_, ?_, ?_⟩
    · rw [heap_alloc_old _ _ (by omega), heap_alloc_old _ _ (by omega), heap_alloc_old _ _ (by omega)]; exact heap_alloc_new _ _
    · rw [heap_alloc_old _ _ (by omega), heap_alloc_old _ _ (by omega), ← s1]; exact heap_alloc_new _ _
    · rw [heap_alloc_old _ _ (by omega), show w.heap.size + 1 + 1 = ((w.alloc o1).alloc o2).heap.size by omega]; exact heap_alloc_new _ _
    · rw [show w.heap.size + 1 + 1 + 1 = (((w.alloc o1).alloc o2).alloc o3).heap.size by omega]; exact heap_alloc_new _ _
  obtain ⟨a0, a1, a2, a3, a4⟩ := ha w (.cells #[.pointer (some ⟨k.K, 0, none⟩)] 23) (.cells #[.int .i64 p] 3) (.cells A 37) (.cells #[.int .i64 0, .int .i64 0, .int .i64 0, .slice none 0 0, .slice none 0 0, .int .i64 0, .int .i64 0, .int .i64 0, .int .i64 0, .int .i64 0, .int .i64 0] 34)
  have HA0 := Lib.hid a0
  have hq1 := hk.keep a0
  have HQ1 := Lib.hid hq1
  have q83 : (((((w.alloc (.cells #[.pointer (some ⟨k.K, 0, none⟩)] 23)).alloc (.cells #[.int .i64 p] 3)).alloc (.cells A 37)).alloc (.cells #[.int .i64 0, .int .i64 0, .int .i64 0, .slice none 0 0, .slice none 0 0, .int .i64 0, .int .i64 0, .int .i64 0, .int .i64 0, .int .i64 0, .int .i64 0] 34))).cell? ⟨k.K, 8 + p * 38 + 37, none⟩ = some (.bool false) := by rw [hq1.kr.cell (by have := haw.p16; omega), haw.sl]
  have HR1 := Lib.hid a1
  have HR2 := Lib.hid a2
  have HR3 := Lib.hid a3
  have HR4 := Lib.hid a4
  have p0 := cell_of_row _ w.heap.size 0 _ _ (0, 0) a1
  have p1 := cell_of_row _ (w.heap.size + 1) 0 _ _ (0, 0) a2
  rw [show (#[Value.pointer (some ⟨k.K, 0, none⟩)] : Array Value)[0]? = some (.pointer (some ⟨k.K, 0, none⟩)) from rfl] at p0
  rw [show (#[Value.int .i64 (p : Int)] : Array Value)[0]? = some (.int .i64 p) from rfl] at p1
  have HOK := Lib.hid ok
  have H0 := Lib.hid h0
  have HS := Lib.hid hs
  have HAS := Lib.hid hA
  have HAW := Lib.hid haw
  have i17 : (p : Int) < 17 := by have := haw.p16; omega
  clear ha a0 a1 a2 a3 a4 hk hq1 ok h0 hs hA haw
  go_enter Tryz.func7, Tryz.ntmps7
  go_upto_region 1 with fail
  generalize (((((w.alloc (.cells #[.pointer (some ⟨k.K, 0, none⟩)] 23)).alloc (.cells #[.int .i64 p] 3)).alloc (.cells A 37)).alloc (.cells #[.int .i64 0, .int .i64 0, .int .i64 0, .slice none 0 0, .slice none 0 0, .int .i64 0, .int .i64 0, .int .i64 0, .int .i64 0, .int .i64 0, .int .i64 0] 34))) = w1 at *
  have HLV := Lib.hid (livingP_is HQ1.out HAW.out.p1 HAW.out.p16 HAW.out.lv)
  go_upto_region 4 with (go_at_call 13; refine HLV.out.mono ?_; rintro e2 w2 ⟨rfl, rfl⟩)
  go_region
  have HBT := Lib.hid (betweenP_is (HQ1.out.keep (Below.refl _ _).drew) HAW.out)
  go_upto_region 7 with (go_at_call 15; refine HBT.out.mono ?_; rintro e3 w3 ⟨rfl, hb3⟩)
  have hb13 : Below w1.heap.size w1 w3 := (Below.refl _ _).drew.trans hb3
  have hr4 : Row w3 (w.heap.size + 1 + 1 + 1) 34 ansZ := Row.keep (c := ansZ) HR4.out hb13
  have HR := Lib.hid hr4
  have HB := Lib.hid (HA0.out.trans (hb13.mono HA0.out.size))
  have hp0 := fun (w4 : World) (hb : Below w3.heap.size w3 w4) => ((hb13.trans (hb.mono hb13.size)).cell (p := ⟨w.heap.size, 0, none⟩) (World.block_lt_of_cell? w1 _ p0)).trans p0
  have hp1 := fun (w4 : World) (hb : Below w3.heap.size w3 w4) => ((hb13.trans (hb.mono hb13.size)).cell (p := ⟨w.heap.size + 1, 0, none⟩) (World.block_lt_of_cell? w1 _ p1)).trans p1
  have hrc : ∀ w4, Below w3.heap.size w3 w4 → Row w4 (w.heap.size + 1 + 1) 37 A := fun w4 hb => Row.keep (c := A) HR3.out (hb13.trans (hb.mono hb13.size))
  have HC := Lib.hid (catch_is HOK.out (H0.out.trans (HB.out.mono H0.out.size)) (fun w4 hb4 => ask1P_is HOK.out (H0.out.trans ((HB.out.trans (hb4.mono HB.out.size)).mono H0.out.size)) (hp0 w4 hb4) (hp1 w4 hb4) (hrc w4 hb4) HAS.out HS.out))
  clear hb13 hr4 hp0 hp1 hrc hb3 p0 p1 q83 HBT HLV HR1 HR2 HR3 HR4 HQ1 HA0
  go_wp2_with (go_at_call 16; refine HC.out.mono ?_; rintro e5 w5 ⟨X, rfl, hX, hone, hu, ho⟩; have hr := ans_row H0.out HR.out (by omega) hu; have hst := ans_st hr hX hone; have HLD := Lib.hid (ans_ldV hr hX); have HP := Lib.hid (HOK.out.put (C := X) H0.out HB.out hu ho (by omega) HR.out.lt); have HX := Lib.hid (And.intro hX hone); clear hr hX hone hu ho; generalize w5.setRow (w.heap.size + 1 + 1 + 1) X = w6 at *)
  exact bodyPost_ret (v := .agg X) (by rw [results_cell1 rfl]; simp [asAddr, Result.andThen, HLD.out]) rfl ⟨X, rfl, HX.out.1, HX.out.2, HP.out.1, HP.out.2⟩
set_option maxRecDepth 100000 in
set_option maxHeartbeats 1000000 in
theorem proc_fork {K : Nat} {q : Int} (q0 : 0 ≤ q) (q16 : q ≤ 16) (ok : OutOk w0 Out) (hA : A.size = 7) (ha : A[0]? = some (.int .i64 2)) (hs : Spec w0 Out 94 #[.pointer (some ⟨K, 0, none⟩), .int .i64 q]) :
    Spec w0 Out 40 #[.pointer (some ⟨K, 0, none⟩), .int .i64 q, .agg A] := by
  intro w h0
  have hb1 := Go.Joins.below_alloc1 w (.cells A 37)
  have hal : Below w.heap.size w ((w.alloc (.cells A 37)).alloc (.cells ansZ 34)) := hb1.trans ((Go.Joins.below_alloc1 _ _).mono hb1.size)
  have hr1 := (row_new w 37 A).alloc (.cells ansZ 34)
  have hr2 := row_new (w.alloc (.cells A 37)) 34 ansZ
  rw [size_alloc1] at hr2
  have d0 : ((w.alloc (.cells A 37)).alloc (.cells ansZ 34)).cell? ⟨w.heap.size, 0, none⟩ = some (.int .i64 2) := by rw [hr1.cell, ha]
  have HR : Hid (Row ((w.alloc (.cells A 37)).alloc (.cells #[.int .i64 0, .int .i64 0, .int .i64 0, .slice none 0 0, .slice none 0 0, .int .i64 0, .int .i64 0, .int .i64 0, .int .i64 0, .int .i64 0, .int .i64 0] 34)) (w.heap.size + 1) 34 ansZ) := Lib.hid hr2
  have HB := Lib.hid hal
  have HC := Lib.hid (hs _ (h0.trans (hal.mono h0.size)))
  have HOK := Lib.hid ok
  have H0 := Lib.hid h0
  have HLT := Lib.hid hr2.lt
  have i17 : q < 17 := by omega
  clear hal hr1 hr2 hA hs ok h0 ha hb1
  have hz : ansZ = #[.int .i64 0, .int .i64 0, .int .i64 0, .slice none 0 0, .slice none 0 0, .int .i64 0, .int .i64 0, .int .i64 0, .int .i64 0, .int .i64 0, .int .i64 0] := rfl
  rw [hz] at d0 HB HC HLT
  go_enter Tryz.func40, Tryz.ntmps40
  go_upto_region 1 with fail
  generalize (w.alloc (.cells A 37)).alloc (.cells #[.int .i64 0, .int .i64 0, .int .i64 0, .slice none 0 0, .slice none 0 0, .int .i64 0, .int .i64 0, .int .i64 0, .int .i64 0, .int .i64 0, .int .i64 0] 34) = w1 at *
  go_wp2_with (go_at_call 94; refine HC.out.mono ?_; rintro e2 w2 ⟨X, rfl, hX, hone, hu, ho⟩; have hr := ans_row H0.out HR.out (Nat.le_succ _) hu; have hst := ans_st hr hX hone; have HLD := Lib.hid (ans_ldV hr hX); have HP := Lib.hid (HOK.out.put (C := X) H0.out HB.out hu ho (Nat.le_succ _) HLT.out); have HX := Lib.hid (And.intro hX hone); clear hr hX hone hu ho; generalize w2.setRow (w.heap.size + 1) X = w3 at *)
  exact bodyPost_ret (v := .agg X) (by rw [results_cell1 rfl]; simp [asAddr, Result.andThen, HLD.out]) rfl ⟨X, rfl, HX.out.1, HX.out.2, HP.out.1, HP.out.2⟩
end
end Go.Proofs.YtlfemcbfclallaaGreatDoor
namespace Go.Proofs.YtlfemcbfclallaaGreatDoor
open Go.RowKit
set_option linter.unusedVariables false
set_option linter.unusedSimpArgs false
def mS0 (sp : Nat) : MS := ⟨.slice none 0 0, [], 1, fun s => if s = 1 then some sp else none, fun _ => 0, fun _ _ => none, fun _ _ => 0, fun _ => 0, fun _ => false⟩
def sS0 (c : Nat → Value) (tag : Nat → Nat) (T cc sp wb : Nat) : KSt := ⟨tag, c, ProcLaw.start, fun _ => OpenLaw.f0, fun _ => 0, some ⟨T, 0, none⟩, cc, [⟨1, 0, true, 0⟩], mS0 sp, fun p => if p = 1 then some wb else none⟩
theorem mem0 {w : World} {M so sp : Nat} (mm : Row w M 179 #[.int .i64 64, .int .i64 64, .int .i64 0, .slice none 0 0, .map (some so)]) (om : OMap w so 1 (fun k => if k = 1 then some sp else none)) (im : IMap w sp 0 (fun _ => none)) (h1 : so < M) (h2 : M < sp) : MemG w M so 64 64 (mS0 sp) := by
  refine ⟨mm.cell 0, mm.cell 1, ⟨0, mm.cell 2⟩, mm.cell 3, mm.cell 4, mm.fz, mm.lt, World.ownsRow_nil _ _ _ _, om, fun s b hs => ?_, fun g hg => (by cases hg), by omega, fun b hb => (by cases hb), fun s b hs => ?_, fun g hg => (by cases hg), fun s s' b hs hs' => ?_, List.nodup_nil⟩
  · simp only [mS0] at hs ⊢
    split at hs
    · injection hs with hs; subst hs; exact im
    · cases hs
  · simp only [mS0] at hs ⊢
    split at hs
    · injection hs with hs; subst hs; exact ⟨by omega, by omega, fun e => by cases e⟩
    · cases hs
  · simp only [mS0] at hs hs'
    split at hs
    · split at hs'
      · omega
      · cases hs'
    · cases hs
end Go.Proofs.YtlfemcbfclallaaGreatDoor
namespace Go.Proofs.YtlfemcbfclallaaGreatDoor
open Go.RowKit Go.Maps
set_option linter.unusedVariables false
set_option linter.unusedSimpArgs false
structure MCode (ι : Type) where
  enc : Option ι → Value
  dat : Option ι → DataW Unit
  d0 : dat none = .nil
  ei : ∀ x y, enc x = enc y → x = y
  di : ∀ x y, dat x = dat y → x = y
section
variable {ι : Type} (c : MCode ι)
open Classical in
noncomputable def MCode.red (v : Value) : Option (DataW Unit × List MemPlace) := if h : ∃ x, v = c.enc x then some (c.dat h.choose, []) else none
theorem MCode.red_enc (x : Option ι) : c.red (c.enc x) = some (c.dat x, []) := by
  unfold MCode.red
  have h : ∃ y, c.enc x = c.enc y := ⟨x, rfl⟩
  rw [dif_pos h, ← c.ei _ _ h.choose_spec]
theorem MCode.red_inv {v : Value} {x : Option ι} {ps : List MemPlace} (h : c.red v = some (c.dat x, ps)) : v = c.enc x := by
  unfold MCode.red at h
  split at h
  · rename_i h'
    simp only [Option.some.injEq, Prod.mk.injEq] at h
    rw [← c.di _ _ h.1]; exact h'.choose_spec
  · cases h
theorem MCode.red_some {v : Value} {y : DataW Unit × List MemPlace} (h : c.red v = some y) : ∃ x, v = c.enc x := by
  unfold MCode.red at h
  split at h
  · assumption
  · cases h
def CMap (w : World) (b n : Nat) (f : Int → Option ι) : Prop :=
  ∃ D : DataW Unit, w.ownsMap Tryz.prog 3 c.red b n D ∧ IsMap D ∧ ∀ k, D.atKey (.int .i64 k) .nil = c.dat (f k) ∧ Maps.has D (.int .i64 k) = (f k).isSome
end
section
variable {ι : Type} {c : MCode ι} {w w' : World} {b n : Nat} {f : Int → Option ι} {T e : TypeId}
theorem CMap.lt (h : CMap c w b n f) : b < w.heap.size := by
  obtain ⟨D, hD, _⟩ := h
  exact hD.lt
theorem CMap.made (w : World) : CMap c (w.alloc (.map #[] 0)) w.heap.size 0 (fun _ => none) :=
  ⟨_, World.ownsMap_made w _ _ _, isMap_empty, fun k => ⟨c.d0.symm, rfl⟩⟩
theorem CMap.kept {row : Option Nat} (h : CMap c w b n f) (hg : w.grownBy w' row) (hne : some b ≠ row) : CMap c w' b n f := by
  obtain ⟨D, hD, hm, hf⟩ := h
  exact ⟨D, hD.kept hg hne, hm, hf⟩
theorem CMap.upd {S : Nat → Prop} (h : CMap c w b n f) (hu : Upd S w w') (hn : ¬ S b) : CMap c w' b n f := by
  obtain ⟨D, hD, hm, hf⟩ := h
  obtain ⟨es, ck, hb, hrest⟩ := hD
  exact ⟨D, ⟨es, ck, (hu.block b (Array.getElem?_eq_some_iff.1 hb).1 hn).trans hb, hrest⟩, hm, hf⟩
theorem CMap.keep (h : CMap c w b n f) (hb : Below w.heap.size w w') : CMap c w' b n f := h.upd (S := fun _ => False) (Upd.below hb) (fun e => e)
theorem CMap.mono {n' : Nat} (h : CMap c w b n f) (hn : n ≤ n') : CMap c w b n' f := by
  obtain ⟨D, hD, hm, hf⟩ := h
  exact ⟨D, hD.mono hn, hm, hf⟩
theorem CMap.look_ok (h : CMap c w b n f) (ht : Tryz.prog.underlying T = some (.map 3 e)) (hz : (zeroValue e).run Tryz.prog w = .ok (c.enc none) w) {k : Int} (hk : (Lit.int .i64 k).wf = true) : (Instr.lookup T (.map (some b)) (.int .i64 k) true).run Tryz.prog w = .ok (.tuple #[c.enc (f k), .bool (f k).isSome]) w := by
  obtain ⟨D, hD, hm, hf⟩ := h
  obtain ⟨v, ps, hr, hv⟩ := hD.look_ok keyed3 ht hz (c.red_enc none) (keyOf_int_mk Tryz.underlying3 hk)
  rw [c.d0, (hf k).1] at hv
  rw [hr, c.red_inv hv, (hf k).2]
theorem CMap.look (h : CMap c w b n f) (ht : Tryz.prog.underlying T = some (.map 3 e)) (hz : (zeroValue e).run Tryz.prog w = .ok (c.enc none) w) {k : Int} (hk : (Lit.int .i64 k).wf = true) : (Instr.lookup T (.map (some b)) (.int .i64 k) false).run Tryz.prog w = .ok (c.enc (f k)) w := by
  obtain ⟨D, hD, hm, hf⟩ := h
  obtain ⟨v, ps, hr, hv⟩ := hD.lookup keyed3 ht hz (c.red_enc none) (keyOf_int_mk Tryz.underlying3 hk)
  rw [c.d0, (hf k).1] at hv
  rw [hr, c.red_inv hv]
theorem CMap.put (h : CMap c w b n f) (ht : Tryz.prog.underlying T = some (.map 3 e)) {k : Int} (hk : (Lit.int .i64 k).wf = true) (hn : n < maxLen) (x : ι) : ∃ w', (Instr.mapUpdate T (.map (some b)) (.int .i64 k) (c.enc (some x))).run Tryz.prog w = .ok () w' ∧ CMap c w' b (n + 1) (fun j => if j = k then some x else f j) ∧ w.grownBy w' (some b) := by
  obtain ⟨D, hD, hm, hf⟩ := h
  obtain ⟨w', hr, ho, hg⟩ := hD.update keyed3 ht hn (keyOf_int_mk Tryz.underlying3 hk) (c.red_enc (some x))
  refine ⟨w', hr, ⟨_, ho, hm.put _ _, fun j => ?_⟩, hg⟩
  by_cases hj : j = k
  · subst hj
    exact ⟨(atKey_put_same hm (ikey _) _ _).trans (by simp), (has_put_same hm (ikey _) _).trans (by simp)⟩
  · dsimp only
    rw [if_neg hj]
    exact ⟨(atKey_put_other (lit_ne hj) _ _).trans (hf j).1, (has_put_other (lit_ne hj) _).trans (hf j).2⟩
theorem CMap.del (h : CMap c w b n f) (ht : Tryz.prog.underlying T = some (.map 3 e)) {k : Int} (hk : (Lit.int .i64 k).wf = true) (ty : TypeId) : ∃ w', (Builtin.delete_ #[T, 3] ty #[.map (some b), .int .i64 k]).run Tryz.prog w = .ok (.tuple #[]) w' ∧ CMap c w' b n (fun j => if j = k then none else f j) ∧ w.grownBy w' (some b) := by
  obtain ⟨D, hD, hm, hf⟩ := h
  obtain ⟨w', hr, ho, hg⟩ := hD.drop keyed3 ht (keyOf_int_mk Tryz.underlying3 hk) ty
  refine ⟨w', hr, ⟨_, ho, hm.del _, fun j => ?_⟩, hg.grown⟩
  by_cases e : j = k
  · subst e
    rw [atKey_del_same, has_del_same]
    simp [c.d0]
  · rw [atKey_del_other (lit_ne e), has_del_other (lit_ne e)]
    dsimp only
    rw [if_neg e]
    exact hf j
theorem CMap.len (h : CMap c w b n f) (ht : Tryz.prog.underlying T = some (.map 3 e)) (ty : TypeId) : ∃ k : Nat, k ≤ n ∧ (Builtin.len_ #[T] ty #[.map (some b)]).run Tryz.prog w = .ok (.int .i64 k) w := by
  obtain ⟨D, hD, hm, hf⟩ := h
  exact ⟨_, hD.size_le, hD.len ht ty⟩
end
abbrev SL := Nat × Nat × Nat × Nat
def encS : Option SL → Value
  | none => .slice none 0 0
  | some (b, o, n, c) => .slice (some ⟨b, o, none⟩) n c
def datS : Option SL → DataW Unit
  | none => .nil
  | some (b, o, n, c) => .agg [.lit (.int .i64 b), .lit (.int .i64 o), .lit (.int .i64 n), .lit (.int .i64 c)]
def cS : MCode SL where
  enc := encS
  dat := datS
  d0 := rfl
  ei := fun x y h => by
    cases x with
    | none => cases y with
      | none => rfl
      | some y => obtain ⟨a, b, c, d⟩ := y; simp [encS] at h
    | some x => obtain ⟨a, b, c, d⟩ := x; cases y with
      | none => simp [encS] at h
      | some y => obtain ⟨a', b', c', d'⟩ := y; simp [encS] at h; obtain ⟨⟨h1, h2⟩, h3, h4⟩ := h; rw [h1, h2, h3, h4]
  di := fun x y h => by
    cases x with
    | none => cases y with
      | none => rfl
      | some y => obtain ⟨a, b, c, d⟩ := y; simp [datS] at h
    | some x => obtain ⟨a, b, c, d⟩ := x; cases y with
      | none => simp [datS] at h
      | some y => obtain ⟨a', b', c', d'⟩ := y; simp [datS] at h; obtain ⟨h1, h2, h3, h4⟩ := h; congr <;> omega
def encT : Option Unit → Value
  | none => .bool false
  | some _ => .bool true
def datT : Option Unit → DataW Unit
  | none => .nil
  | some _ => .agg []
def cT : MCode Unit where
  enc := encT
  dat := datT
  d0 := rfl
  ei := fun x y h => by cases x <;> cases y <;> simp [encT] at h ⊢
  di := fun x y h => by cases x <;> cases y <;> simp [datT] at h ⊢
theorem zeroS (w : World) : (zeroValue 22).run Tryz.prog w = .ok (encS none) w := by kernel_rfl
theorem zeroT (w : World) : (zeroValue 4).run Tryz.prog w = .ok (encT none) w := by kernel_rfl
end Go.Proofs.YtlfemcbfclallaaGreatDoor
