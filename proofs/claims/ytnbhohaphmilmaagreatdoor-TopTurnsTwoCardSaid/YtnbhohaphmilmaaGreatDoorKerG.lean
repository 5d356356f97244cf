/- Walks of the kernel at any process that lives: living, between, Ask's closure, do, Ask; process's switch. The kernel while it serves: from one state to another. No walk here. -/
import Derived.Test.YtnbhohaphmilmaaGreatDoorKerQ
namespace Go.Proofs.YtnbhohaphmilmaaGreatDoor
open Go.RowKit
set_option linter.unusedVariables false
set_option linter.unusedSimpArgs false
/-- a process that lives, is awake, and has no signal -/
structure Awake (s : KSt) (p : Nat) : Prop where
  p1 : 1 ≤ p
  p16 : p ≤ 16
  lv : (s.t p).st = 1
  sl : s.c (8 + p * 38 + 37) = .bool false
  sg : ∀ j, j < 18 → s.c (8 + p * 38 + 19 + j) = .int .i64 0
section
variable {w w0 : World} {k : KC} {s : KSt} {p : Nat}
theorem sig_cellsP {c : Nat → Value} {o : Nat} (ho : o + 18 ≤ 655) (h : ∀ j, j < 18 → c (o + j) = .int .i64 0) : (kerA c).extract o (o + 18) = SigLaw.cellsA SigLaw.zeroG := by
  apply Array.ext
  · simp [kerA_size]; rw [Nat.min_eq_left ho]; simp; rfl
  · intro i h1 h2
    have hi : i < 18 := by simp [kerA_size] at h1; omega
    simp only [Array.getElem_extract, kerA, Array.getElem_ofFn]
    rw [h i hi]
    have : i = 0 ∨ i = 1 ∨ i = 2 ∨ i = 3 ∨ i = 4 ∨ i = 5 ∨ i = 6 ∨ i = 7 ∨ i = 8 ∨ i = 9 ∨ i = 10 ∨ i = 11 ∨ i = 12 ∨ i = 13 ∨ i = 14 ∨ i = 15 ∨ i = 16 ∨ i = 17 := by omega
    rcases this with rfl | rfl | rfl | rfl | rfl | rfl | rfl | rfl | rfl | rfl | rfl | rfl | rfl | rfl | rfl | rfl | rfl | rfl <;> rfl
set_option maxRecDepth 100000 in
set_option maxHeartbeats 400000 in
theorem livingP_is (h : KT w k s) (h1 : 1 ≤ p) (h16 : p ≤ 16) (hl : (s.t p).st = 1) : Calls Tryz.prog 20 #[.pointer (some ⟨k.K, 0, none⟩), .int .i64 p] w fun e w' => e = .returned (.int .i64 0) ∧ w = w' := by
  have q7 : w.cell? ⟨k.K, 7, none⟩ = some (.pointer (some ⟨k.Pr, 0, none⟩)) := by rw [h.kr.cell (by decide), h.c7]
  have HS := Lib.hid (ProcLaw.state_is (k := p) h.pr h1 h16)
  rw [hl] at HS
  clear h hl
  go_enter Tryz.func20, Tryz.ntmps20
  go_wp2_with (go_at_call 53; refine HS.out.mono ?_; rintro e1 w1 ⟨rfl, rfl⟩)
  go_ret
  exact ⟨rfl, rfl⟩
attribute [local go_sem ↓] ld_sig st_sig
theorem KT.ldsig (h : KT w k s) (hp : p ≤ 16) (hg : ∀ j, j < 18 → s.c (8 + p * 38 + 19 + j) = .int .i64 0) : (ldR 76 (.pointer (some ⟨k.K, 8 + p * 38 + 19, none⟩))).run Tryz.prog w = .ok (.agg (SigLaw.cellsA SigLaw.zeroG)) w := by
  rw [Row.ld h.kr (o := 8 + p * 38 + 19) (n := 18) (by rw [kerA_size]; omega) Tryz.underlying76 rfl (by kernel_rfl), sig_cellsP (by omega) hg]
set_option maxRecDepth 100000 in
set_option maxHeartbeats 400000 in
theorem betweenP_is (h : KT w k s) (ha : Awake s p) : Calls Tryz.prog 39 #[.pointer (some ⟨k.K, 0, none⟩), .int .i64 p] w fun e w' => e = .returned (.tuple #[.int .i64 0, .bool false]) ∧ Below w.heap.size w w' := by
  have l1 := h.ldsig ha.p16 ha.sg
  have i0 : (p : Int) < 17 := by have := ha.p16; omega
  have HT := Lib.hid (SigLaw.take_is SigLaw.zeroG 0 0 w ⟨⟨by decide, by decide⟩, by decide, by decide⟩ sig_right)
  have HST := Lib.hid (fun (w : World) (g : SigLaw.G) => st0_new w (T := 76) (c := #[.int .i64 0, .int .i64 0, .int .i64 0, .int .i64 0, .int .i64 0, .int .i64 0, .int .i64 0, .int .i64 0, .int .i64 0, .int .i64 0, .int .i64 0, .int .i64 0, .int .i64 0, .int .i64 0, .int .i64 0, .int .i64 0, .int .i64 0, .int .i64 0]) (cs := SigLaw.cellsA g) rfl (by kernel_rfl) (SigLaw.cellsA_one g))
  clear h ha
  generalize SigLaw.cellsA SigLaw.zeroG = ZG at *
  go_enter Tryz.func39, Tryz.ntmps39
  go_wp2_with (go_at_call 86; refine HT.out.mono ?_; rintro e1 w1 ⟨hb1, h1⟩; (rcases h1 with ⟨g1, n1, h1, rfl⟩ | ⟨k, _, _, hk, _⟩; rotate_left; exact absurd hk (by simp)); have st1 := HST.out w1 g1; have HB1 := Lib.hid (hb1.trans ((Go.Joins.below_alloc1 w1 (.cells (SigLaw.cellsA g1) 76)).mono hb1.size)); clear hb1; generalize SigLaw.cellsA g1 = C1 at *)
  go_ret2
  exact ⟨rfl, HB1.out⟩
end
section
variable {w0 w : World} {Out : World → Array Value → World → Prop} {k : KC} {s : KSt} {p b0 b1 b2 : Nat} {A : Array Value}
attribute [local go_sem ↓] ld_ans st_ans ld_call
set_option maxRecDepth 100000 in
set_option maxHeartbeats 400000 in
theorem ask1P_is {K : Nat} {q : Int} (ok : OutOk w0 Out) (h0 : Below w0.heap.size w0 w) (c0 : w.cell? ⟨b0, 0, none⟩ = some (.pointer (some ⟨K, 0, none⟩))) (c1 : w.cell? ⟨b1, 0, none⟩ = some (.int .i64 q)) (hr : Row w b2 62 A) (hA : A.size = 7) (hs : Spec w0 Out 42 #[.pointer (some ⟨K, 0, none⟩), .int .i64 q, .agg A]) :
    Calls Tryz.prog 41 #[.pointer (some ⟨b0, 0, none⟩), .pointer (some ⟨b1, 0, none⟩), .pointer (some ⟨b2, 0, none⟩)] w (Res w0 Out w) := by
  have hal := Go.Joins.below_alloc1 w (.cells ansZ 59)
  have d0 : (w.alloc (.cells ansZ 59)).cell? ⟨b0, 0, none⟩ = some (.pointer (some ⟨K, 0, none⟩)) := (hal.cell (p := ⟨b0, 0, none⟩) (World.block_lt_of_cell? w _ c0)).trans c0
  have d1 : (w.alloc (.cells ansZ 59)).cell? ⟨b1, 0, none⟩ = some (.int .i64 q) := (hal.cell (p := ⟨b1, 0, none⟩) (World.block_lt_of_cell? w _ c1)).trans c1
  have l2 := ld_callR (hr.keep hal) hA
  have HR := Lib.hid (row_new w 59 ansZ)
  have HB := Lib.hid hal
  have HC := Lib.hid (hs _ (h0.trans (hal.mono h0.size)))
  have HOK := Lib.hid ok
  have H0 := Lib.hid h0
  clear hal hr hA hs ok h0 c0 c1
  have hz : ansZ = #[.int .i64 0, .int .i64 0, .int .i64 0, .slice none 0 0, .slice none 0 0, .int .i64 0, .int .i64 0, .int .i64 0, .int .i64 0, .int .i64 0, .int .i64 0] := rfl
  rw [hz] at d0 d1 l2 HB HC
  go_enter Tryz.func41, Tryz.ntmps41
  go_wp2_with (go_at_call 42; refine HC.out.mono ?_; rintro e2 w2 ⟨X, rfl, hX, hone, hu, ho⟩; have hr := ans_row H0.out HR.out (Nat.le_refl _) hu; have hst := ans_st hr hX hone; have HLD := Lib.hid (ans_ldV hr hX); have HP := Lib.hid (HOK.out.put (C := X) H0.out HB.out hu ho (Nat.le_refl _) HR.out.lt); have HX := Lib.hid (And.intro hX hone); clear hr hX hone hu ho; generalize w2.setRow w.heap.size X = w3 at *)
  exact bodyPost_ret (v := .agg X) (by rw [results_cell1 rfl]; simp [asAddr, Result.andThen, HLD.out]) rfl ⟨X, rfl, HX.out.1, HX.out.2, HP.out.1, HP.out.2⟩
set_option maxRecDepth 100000 in
set_option maxHeartbeats 1000000 in
theorem doP_is {K : Nat} {q : Int} (ok : OutOk w0 Out) {num : Int} (hn : num = 1 ∨ num = 2 ∨ num = 4 ∨ num = 23) (hA : A.size = 7) (ha : A[0]? = some (.int .i64 num)) (hs : Spec w0 Out 91 #[.pointer (some ⟨K, 0, none⟩), .int .i64 q, .agg A]) :
    Spec w0 Out 42 #[.pointer (some ⟨K, 0, none⟩), .int .i64 q, .agg A] := by
  intro w h0
  have hb1 := Go.Joins.below_alloc1 w (.cells A 62)
  have hal : Below w.heap.size w ((w.alloc (.cells A 62)).alloc (.cells ansZ 59)) := hb1.trans ((Go.Joins.below_alloc1 _ _).mono hb1.size)
  have hr1 := (row_new w 62 A).alloc (.cells ansZ 59)
  have hr2 := row_new (w.alloc (.cells A 62)) 59 ansZ
  rw [size_alloc1] at hr2
  have d0 : ((w.alloc (.cells A 62)).alloc (.cells ansZ 59)).cell? ⟨w.heap.size, 0, none⟩ = some (.int .i64 num) := by rw [hr1.cell, ha]
  have l2 := ld_callR hr1 hA
  have HR : Hid (Row ((w.alloc (.cells A 62)).alloc (.cells #[.int .i64 0, .int .i64 0, .int .i64 0, .slice none 0 0, .slice none 0 0, .int .i64 0, .int .i64 0, .int .i64 0, .int .i64 0, .int .i64 0, .int .i64 0] 59)) (w.heap.size + 1) 59 ansZ) := Lib.hid hr2
  have HB := Lib.hid hal
  have HC := Lib.hid (hs _ (h0.trans (hal.mono h0.size)))
  have HOK := Lib.hid ok
  have H0 := Lib.hid h0
  have HLT := Lib.hid hr2.lt
  clear hal hr1 hr2 hA hs ok h0 ha hb1
  have hz : ansZ = #[.int .i64 0, .int .i64 0, .int .i64 0, .slice none 0 0, .slice none 0 0, .int .i64 0, .int .i64 0, .int .i64 0, .int .i64 0, .int .i64 0, .int .i64 0] := rfl
  rw [hz] at d0 l2 HB HC HLT
  rcases hn with rfl | rfl | rfl | rfl
  all_goals
    go_enter Tryz.func42, Tryz.ntmps42
    go_upto_region 1 with fail
    generalize (w.alloc (.cells A 62)).alloc (.cells #[.int .i64 0, .int .i64 0, .int .i64 0, .slice none 0 0, .slice none 0 0, .int .i64 0, .int .i64 0, .int .i64 0, .int .i64 0, .int .i64 0, .int .i64 0] 59) = w1 at *
    go_wp2_with (go_at_call 91; refine HC.out.mono ?_; rintro e2 w2 ⟨X, rfl, hX, hone, hu, ho⟩; have hr := ans_row H0.out HR.out (Nat.le_succ _) hu; have hst := ans_st hr hX hone; have HLD := Lib.hid (ans_ldV hr hX); have HP := Lib.hid (HOK.out.put (C := X) H0.out HB.out hu ho (Nat.le_succ _) HLT.out); have HX := Lib.hid (And.intro hX hone); clear hr hX hone hu ho; generalize w2.setRow (w.heap.size + 1) X = w3 at *)
    exact bodyPost_ret (v := .agg X) (by rw [results_cell1 rfl]; simp [asAddr, Result.andThen, HLD.out]) rfl ⟨X, rfl, HX.out.1, HX.out.2, HP.out.1, HP.out.2⟩
set_option maxRecDepth 100000 in
set_option maxHeartbeats 1000000 in
theorem askP_is (ok : OutOk w0 Out) (h0 : Below w0.heap.size w0 w) (hk : KT w k s) (haw : Awake s p) (hA : A.size = 7) (hs : Spec w0 Out 42 #[.pointer (some ⟨k.K, 0, none⟩), .int .i64 p, .agg A]) :
    Calls Tryz.prog 15 #[.pointer (some ⟨k.K, 0, none⟩), .int .i64 p, .agg A] w (Res w0 Out w) := by
  have hmf : ∀ (fn : Fn) (first cap : Array Value) (w : World), (Instr.makeFunc fn first cap).run Tryz.prog w = .ok (.func fn first cap) w := fun _ _ _ _ => rfl
  have ha : ∀ (w : World) (o1 o2 o3 o4 : Obj), Below w.heap.size w ((((w.alloc o1).alloc o2).alloc o3).alloc o4) ∧ ((((w.alloc o1).alloc o2).alloc o3).alloc o4).heap[w.heap.size]? = some o1 ∧ ((((w.alloc o1).alloc o2).alloc o3).alloc o4).heap[w.heap.size + 1]? = some o2 ∧ ((((w.alloc o1).alloc o2).alloc o3).alloc o4).heap[w.heap.size + 1 + 1]? = some o3 ∧ ((((w.alloc o1).alloc o2).alloc o3).alloc o4).heap[w.heap.size + 1 + 1 + 1]? = some o4 := fun w o1 o2 o3 o4 => by
    have s1 := size_alloc1 w o1
    have s2 := size_alloc1 (w.alloc o1) o2
    have s3 := size_alloc1 ((w.alloc o1).alloc o2) o3
    refine ⟨(((Below.refl _ _).alloc (Nat.le_refl _) _).alloc (by omega) _).alloc (by omega) _ |>.alloc (by omega) _, ?_, ?_, ?_, ?_⟩
    · rw [heap_alloc_old _ _ (by omega), heap_alloc_old _ _ (by omega), heap_alloc_old _ _ (by omega)]; exact heap_alloc_new _ _
    · rw [heap_alloc_old _ _ (by omega), heap_alloc_old _ _ (by omega), ← s1]; exact heap_alloc_new _ _
    · rw [heap_alloc_old _ _ (by omega), show w.heap.size + 1 + 1 = ((w.alloc o1).alloc o2).heap.size by omega]; exact heap_alloc_new _ _
    · rw [show w.heap.size + 1 + 1 + 1 = (((w.alloc o1).alloc o2).alloc o3).heap.size by omega]; exact heap_alloc_new _ _
  obtain ⟨a0, a1, a2, a3, a4⟩ := ha w (.cells #[.pointer (some ⟨k.K, 0, none⟩)] 28) (.cells #[.int .i64 p] 3) (.cells A 62) (.cells #[.int .i64 0, .int .i64 0, .int .i64 0, .slice none 0 0, .slice none 0 0, .int .i64 0, .int .i64 0, .int .i64 0, .int .i64 0, .int .i64 0, .int .i64 0] 59)
  have HA0 := Lib.hid a0
  have hq1 := hk.keep a0
  have HQ1 := Lib.hid hq1
  have q83 : (((((w.alloc (.cells #[.pointer (some ⟨k.K, 0, none⟩)] 28)).alloc (.cells #[.int .i64 p] 3)).alloc (.cells A 62)).alloc (.cells #[.int .i64 0, .int .i64 0, .int .i64 0, .slice none 0 0, .slice none 0 0, .int .i64 0, .int .i64 0, .int .i64 0, .int .i64 0, .int .i64 0, .int .i64 0] 59))).cell? ⟨k.K, 8 + p * 38 + 37, none⟩ = some (.bool false) := by rw [hq1.kr.cell (by have := haw.p16; omega), haw.sl]
  have HR1 := Lib.hid a1
  have HR2 := Lib.hid a2
  have HR3 := Lib.hid a3
  have HR4 := Lib.hid a4
  have p0 := cell_of_row _ w.heap.size 0 _ _ (0, 0) a1
  have p1 := cell_of_row _ (w.heap.size + 1) 0 _ _ (0, 0) a2
  rw [show (#[Value.pointer (some ⟨k.K, 0, none⟩)] : Array Value)[0]? = some (.pointer (some ⟨k.K, 0, none⟩)) from rfl] at p0
  rw [show (#[Value.int .i64 (p : Int)] : Array Value)[0]? = some (.int .i64 p) from rfl] at p1
  have HOK := Lib.hid ok
  have H0 := Lib.hid h0
  have HS := Lib.hid hs
  have HAS := Lib.hid hA
  have HAW := Lib.hid haw
  have i17 : (p : Int) < 17 := by have := haw.p16; omega
  clear ha a0 a1 a2 a3 a4 hk hq1 ok h0 hs hA haw
  go_enter Tryz.func15, Tryz.ntmps15
  go_upto_region 1 with fail
  generalize (((((w.alloc (.cells #[.pointer (some ⟨k.K, 0, none⟩)] 28)).alloc (.cells #[.int .i64 p] 3)).alloc (.cells A 62)).alloc (.cells #[.int .i64 0, .int .i64 0, .int .i64 0, .slice none 0 0, .slice none 0 0, .int .i64 0, .int .i64 0, .int .i64 0, .int .i64 0, .int .i64 0, .int .i64 0] 59))) = w1 at *
  have HLV := Lib.hid (livingP_is HQ1.out HAW.out.p1 HAW.out.p16 HAW.out.lv)
  go_upto_region 4 with (go_at_call 20; refine HLV.out.mono ?_; rintro e2 w2 ⟨rfl, rfl⟩)
  go_region
  have HBT := Lib.hid (betweenP_is (HQ1.out.keep (Below.refl _ _).drew) HAW.out)
  go_upto_region 7 with (go_at_call 39; refine HBT.out.mono ?_; rintro e3 w3 ⟨rfl, hb3⟩)
  have hb13 : Below w1.heap.size w1 w3 := (Below.refl _ _).drew.trans hb3
  have hr4 : Row w3 (w.heap.size + 1 + 1 + 1) 59 ansZ := Row.keep (c := ansZ) HR4.out hb13
  have HR := Lib.hid hr4
  have HB := Lib.hid (HA0.out.trans (hb13.mono HA0.out.size))
  have hp0 := fun (w4 : World) (hb : Below w3.heap.size w3 w4) => ((hb13.trans (hb.mono hb13.size)).cell (p := ⟨w.heap.size, 0, none⟩) (World.block_lt_of_cell? w1 _ p0)).trans p0
  have hp1 := fun (w4 : World) (hb : Below w3.heap.size w3 w4) => ((hb13.trans (hb.mono hb13.size)).cell (p := ⟨w.heap.size + 1, 0, none⟩) (World.block_lt_of_cell? w1 _ p1)).trans p1
  have hrc : ∀ w4, Below w3.heap.size w3 w4 → Row w4 (w.heap.size + 1 + 1) 62 A := fun w4 hb => Row.keep (c := A) HR3.out (hb13.trans (hb.mono hb13.size))
  have HC := Lib.hid (catch_is HOK.out (H0.out.trans (HB.out.mono H0.out.size)) (fun w4 hb4 => ask1P_is HOK.out (H0.out.trans ((HB.out.trans (hb4.mono HB.out.size)).mono H0.out.size)) (hp0 w4 hb4) (hp1 w4 hb4) (hrc w4 hb4) HAS.out HS.out))
  clear hb13 hr4 hp0 hp1 hrc hb3 p0 p1 q83 HBT HLV HR1 HR2 HR3 HR4 HQ1 HA0
  go_wp2_with (go_at_call 40; refine HC.out.mono ?_; rintro e5 w5 ⟨X, rfl, hX, hone, hu, ho⟩; have hr := ans_row H0.out HR.out (by omega) hu; have hst := ans_st hr hX hone; have HLD := Lib.hid (ans_ldV hr hX); have HP := Lib.hid (HOK.out.put (C := X) H0.out HB.out hu ho (by omega) HR.out.lt); have HX := Lib.hid (And.intro hX hone); clear hr hX hone hu ho; generalize w5.setRow (w.heap.size + 1 + 1 + 1) X = w6 at *)
  exact bodyPost_ret (v := .agg X) (by rw [results_cell1 rfl]; simp [asAddr, Result.andThen, HLD.out]) rfl ⟨X, rfl, HX.out.1, HX.out.2, HP.out.1, HP.out.2⟩
set_option maxRecDepth 100000 in
set_option maxHeartbeats 1000000 in
theorem proc_fork {K : Nat} {q : Int} (q0 : 0 ≤ q) (q16 : q ≤ 16) (ok : OutOk w0 Out) (hA : A.size = 7) (ha : A[0]? = some (.int .i64 2)) (hs : Spec w0 Out 173 #[.pointer (some ⟨K, 0, none⟩), .int .i64 q]) :
    Spec w0 Out 91 #[.pointer (some ⟨K, 0, none⟩), .int .i64 q, .agg A] := by
  intro w h0
  have hb1 := Go.Joins.below_alloc1 w (.cells A 62)
  have hal : Below w.heap.size w ((w.alloc (.cells A 62)).alloc (.cells ansZ 59)) := hb1.trans ((Go.Joins.below_alloc1 _ _).mono hb1.size)
  have hr1 := (row_new w 62 A).alloc (.cells ansZ 59)
  have hr2 := row_new (w.alloc (.cells A 62)) 59 ansZ
  rw [size_alloc1] at hr2
  have d0 : ((w.alloc (.cells A 62)).alloc (.cells ansZ 59)).cell? ⟨w.heap.size, 0, none⟩ = some (.int .i64 2) := by rw [hr1.cell, ha]
  have HR : Hid (Row ((w.alloc (.cells A 62)).alloc (.cells #[.int .i64 0, .int .i64 0, .int .i64 0, .slice none 0 0, .slice none 0 0, .int .i64 0, .int .i64 0, .int .i64 0, .int .i64 0, .int .i64 0, .int .i64 0] 59)) (w.heap.size + 1) 59 ansZ) := Lib.hid hr2
  have HB := Lib.hid hal
  have HC := Lib.hid (hs _ (h0.trans (hal.mono h0.size)))
  have HOK := Lib.hid ok
  have H0 := Lib.hid h0
  have HLT := Lib.hid hr2.lt
  have i17 : q < 17 := by omega
  clear hal hr1 hr2 hA hs ok h0 ha hb1
  have hz : ansZ = #[.int .i64 0, .int .i64 0, .int .i64 0, .slice none 0 0, .slice none 0 0, .int .i64 0, .int .i64 0, .int .i64 0, .int .i64 0, .int .i64 0, .int .i64 0] := rfl
  rw [hz] at d0 HB HC HLT
  go_enter Tryz.func91, Tryz.ntmps91
  go_upto_region 1 with fail
  generalize (w.alloc (.cells A 62)).alloc (.cells #[.int .i64 0, .int .i64 0, .int .i64 0, .slice none 0 0, .slice none 0 0, .int .i64 0, .int .i64 0, .int .i64 0, .int .i64 0, .int .i64 0, .int .i64 0] 59) = w1 at *
  go_wp2_with (go_at_call 173; refine HC.out.mono ?_; rintro e2 w2 ⟨X, rfl, hX, hone, hu, ho⟩; have hr := ans_row H0.out HR.out (Nat.le_succ _) hu; have hst := ans_st hr hX hone; have HLD := Lib.hid (ans_ldV hr hX); have HP := Lib.hid (HOK.out.put (C := X) H0.out HB.out hu ho (Nat.le_succ _) HLT.out); have HX := Lib.hid (And.intro hX hone); clear hr hX hone hu ho; generalize w2.setRow (w.heap.size + 1) X = w3 at *)
  exact bodyPost_ret (v := .agg X) (by rw [results_cell1 rfl]; simp [asAddr, Result.andThen, HLD.out]) rfl ⟨X, rfl, HX.out.1, HX.out.2, HP.out.1, HP.out.2⟩
/-- what a call that tells an error alone comes to -/
def SpecE (w0 : World) (Out : World → Array Value → World → Prop) (f : Nat) (args : Array Value) : Prop := ∀ w1, Below w0.heap.size w0 w1 → Calls Tryz.prog f args w1 fun e w2 => ∃ er, e = .returned (.int .i64 er) ∧ Upd (fun j => j < w0.heap.size) w1 w2 ∧ Out w1 (ansV er 0 0 (.slice none 0 0)) w2
theorem ansN (e : Int) : (ansV e 0 0 (.slice none 0 0)).size = 11 ∧ (ansV e 0 0 (.slice none 0 0)).all (·.oneCell') = true := ⟨rfl, ansV_one _ _ _ rfl⟩
set_option maxRecDepth 100000 in
set_option maxHeartbeats 1000000 in
theorem proc_exit {K : Nat} {q : Int} (q0 : 0 ≤ q) (q16 : q ≤ 16) (ok : OutOk w0 Out) (hA : A.size = 7) (ha : A[0]? = some (.int .i64 1)) {a : Int} (ha1 : A[1]? = some (.int .i64 a)) (hs : SpecE w0 Out 87 #[.pointer (some ⟨K, 0, none⟩), .int .i64 q, .int .i64 a]) :
    Spec w0 Out 91 #[.pointer (some ⟨K, 0, none⟩), .int .i64 q, .agg A] := by
  intro w h0
  have hb1 := Go.Joins.below_alloc1 w (.cells A 62)
  have hal : Below w.heap.size w ((w.alloc (.cells A 62)).alloc (.cells ansZ 59)) := hb1.trans ((Go.Joins.below_alloc1 _ _).mono hb1.size)
  have hr1 := (row_new w 62 A).alloc (.cells ansZ 59)
  have hr2 := row_new (w.alloc (.cells A 62)) 59 ansZ
  rw [size_alloc1] at hr2
  have d0 : ((w.alloc (.cells A 62)).alloc (.cells ansZ 59)).cell? ⟨w.heap.size, 0, none⟩ = some (.int .i64 1) := by rw [hr1.cell, ha]
  have d1 : ((w.alloc (.cells A 62)).alloc (.cells ansZ 59)).cell? ⟨w.heap.size, 1, none⟩ = some (.int .i64 a) := by rw [hr1.cell, ha1]
  have HR : Hid (Row ((w.alloc (.cells A 62)).alloc (.cells #[.int .i64 0, .int .i64 0, .int .i64 0, .slice none 0 0, .slice none 0 0, .int .i64 0, .int .i64 0, .int .i64 0, .int .i64 0, .int .i64 0, .int .i64 0] 59)) (w.heap.size + 1) 59 ansZ) := Lib.hid hr2
  have HB := Lib.hid hal
  have HC := Lib.hid (hs _ (h0.trans (hal.mono h0.size)))
  have HOK := Lib.hid ok
  have H0 := Lib.hid h0
  have HLT := Lib.hid hr2.lt
  have i17 : q < 17 := by omega
  clear hal hr1 hr2 hA hs ok h0 ha hb1
  have hz : ansZ = #[.int .i64 0, .int .i64 0, .int .i64 0, .slice none 0 0, .slice none 0 0, .int .i64 0, .int .i64 0, .int .i64 0, .int .i64 0, .int .i64 0, .int .i64 0] := rfl
  rw [hz] at d0 d1 HB HC HLT
  go_enter Tryz.func91, Tryz.ntmps91
  go_upto_region 1 with fail
  generalize (w.alloc (.cells A 62)).alloc (.cells #[.int .i64 0, .int .i64 0, .int .i64 0, .slice none 0 0, .slice none 0 0, .int .i64 0, .int .i64 0, .int .i64 0, .int .i64 0, .int .i64 0, .int .i64 0] 59) = w1 at *
  go_wp2_with (first | (go_at_call 87; refine HC.out.mono ?_; rintro e2 w3 ⟨er, rfl, hu3, ho3⟩; have HU3 := Lib.hid hu3; have HO3 := Lib.hid ho3; have HFL := Lib.hid (fail_is w3 er); clear hu3 ho3) | (go_at_call 38; refine HFL.out.mono ?_; rintro e4 w2 ⟨rfl, hb4⟩; obtain ⟨hX, hone⟩ := ansN er; have hu := HU3.out.trans (Upd.below hb4); have ho := HOK.out.keep _ _ _ _ HO3.out hb4; generalize ansV er 0 0 (.slice none 0 0) = X at *; have hr := ans_row H0.out HR.out (Nat.le_succ _) hu; have hst := ans_st hr hX hone; have HLD := Lib.hid (ans_ldV hr hX); have HP := Lib.hid (HOK.out.put (C := X) H0.out HB.out hu ho (Nat.le_succ _) HLT.out); have HX := Lib.hid (And.intro hX hone); clear hr hX hone hu ho; generalize w2.setRow (w.heap.size + 1) X = w3 at *))
  exact bodyPost_ret (v := .agg X) (by rw [results_cell1 rfl]; simp [asAddr, Result.andThen, HLD.out]) rfl ⟨X, rfl, HX.out.1, HX.out.2, HP.out.1, HP.out.2⟩
end
end Go.Proofs.YtnbhohaphmilmaaGreatDoor
namespace Go.Proofs.YtnbhohaphmilmaaGreatDoor
open Go.RowKit
set_option linter.unusedVariables false
set_option linter.unusedSimpArgs false
/-- the kernel while it serves: from one state to another -/
structure KG (s0 : KSt) (k : KC) (w w1 : World) (s : KSt) : Prop where
  kt : KT w1 k s
  up : Upd (fun j => s0.tag j ≠ 0) w w1
  far : ∀ j, s.tag j ≠ 0 → s0.tag j ≠ 0 ∨ w.heap.size ≤ j
section
variable {w w1 w2 : World} {k : KC} {s0 s s' : KSt}
theorem KT.start (h : KT w k s) : KG s k w w s := ⟨h, Upd.refl _ _, fun _ e => .inl e⟩
theorem KG.step {S : Nat → Prop} (h : KG s0 k w w1 s) (hk : KT w2 k s') (hu : Upd S w1 w2) (hS : ∀ j, S j → s.tag j ≠ 0) (hf : ∀ j, s'.tag j ≠ 0 → s.tag j ≠ 0 ∨ w1.heap.size ≤ j) : KG s0 k w w2 s' :=
  ⟨hk, h.up.trans' hu (fun i hi q => (h.far i (hS i q)).elim id (fun e => by omega)), fun j hj => (hf j hj).elim (h.far j) (fun e => .inr (Nat.le_trans h.up.size e))⟩
theorem KG.keep (h : KG s0 k w w1 s) (hb : Below w1.heap.size w1 w2) : KG s0 k w w2 s := h.step (S := fun _ => False) (h.kt.keep hb) (Upd.below hb) (fun _ e => e.elim) (fun _ e => .inl e)
theorem KG.own (h : KG s0 k w w1 s) {n : Nat} (hu : Upd (fun j => j = n) w1 w2) (hn : w.heap.size ≤ n) (ht : s.tag n = 0) : KG s0 k w w2 s :=
  ⟨h.kt.upd hu (fun j hj e => hj (by rw [e]; exact ht)), h.up.trans' hu (fun i hi e => by omega), h.far⟩
theorem KG.trans {s'' : KSt} (h : KG s0 k w w1 s') (h2 : KG s' k w1 w2 s'') : KG s0 k w w2 s'' :=
  ⟨h2.kt, h.up.trans' h2.up (fun i hi q => (h.far i q).elim id (fun e => by omega)), fun j hj => (h2.far j hj).elim (h.far j) (fun e => .inr (Nat.le_trans h.up.size e))⟩
end
/-- some cells of the kernel are others: those from o to o + n -/
theorem KR.putN {w : World} {K o n : Nat} {c : Nat → Value} {C : Array Value} (h : KR w K c) (ho : o + n ≤ 655) (hC : C.size = n) :
    KR (w.setRow K (putA (kerA c) o C.toList)) K (fun j => if o ≤ j ∧ j < o + n then (C[j - o]?).getD undef else c j) := by
  have e : putA (kerA c) o C.toList = kerA (fun j => if o ≤ j ∧ j < o + n then (C[j - o]?).getD undef else c j) := by
    apply Array.ext_getElem?
    intro j
    rw [putA_get (by rw [kerA_size]; simp; omega)]
    by_cases hj : j < 655
    · rw [kerA_get _ hj, kerA_get _ hj]
      simp only [Array.length_toList, hC, Array.getElem?_toList]
      by_cases hr : o ≤ j ∧ j < o + n
      · rw [if_pos hr, if_pos hr, Array.getElem?_eq_getElem (by omega)]; rfl
      · rw [if_neg hr, if_neg hr]
    · rw [if_neg (by simp [hC]; omega), Array.getElem?_eq_none (by rw [kerA_size]; omega), Array.getElem?_eq_none (by rw [kerA_size]; omega)]
  rw [e]
  exact Row.setRow h _
end Go.Proofs.YtnbhohaphmilmaaGreatDoor
