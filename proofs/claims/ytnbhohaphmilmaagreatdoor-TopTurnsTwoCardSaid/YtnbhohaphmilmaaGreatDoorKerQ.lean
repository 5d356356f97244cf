/- The walks of Ask's closure, do, Ask. The walk of the kernel's Ask. What keeps the tables of processes and of descriptors; answers that are built; the kernel's fail. The kernel with its processes: what holds of it, and what keeps it. No walk here. -/
import Derived.Test.YtnbhohaphmilmaaGreatDoorAskB
import Derived.Test.YtnbhohaphmilmaaGreatDoorDiskNew
import Derived.Test.YtnbhohaphmilmaaGreatDoorSprA
namespace Go.Proofs.YtnbhohaphmilmaaGreatDoor
open Go.RowKit
set_option linter.unusedVariables false
set_option linter.unusedSimpArgs false
section
variable {w0 w : World} {Out : World → Array Value → World → Prop} {K Pr b0 b1 b2 : Nat} {A : Array Value} {c : Nat → Value}
theorem ld_callR {w : World} {b : Nat} (hr : Row w b 62 A) (hA : A.size = 7) : (ldR 62 (.pointer (some ⟨b, 0, none⟩))).run Tryz.prog w = .ok (.agg A) w := hr.ld0 Tryz.underlying62 rfl (by rw [hA]; kernel_rfl)
attribute [local go_sem ↓] ld_ans st_ans ld_call
set_option maxRecDepth 100000 in
set_option maxHeartbeats 400000 in
theorem ask1_is (ok : OutOk w0 Out) (h0 : Below w0.heap.size w0 w) (c0 : w.cell? ⟨b0, 0, none⟩ = some (.pointer (some ⟨K, 0, none⟩))) (c1 : w.cell? ⟨b1, 0, none⟩ = some (.int .i64 1)) (hr : Row w b2 62 A) (hA : A.size = 7) (hs : Spec w0 Out 42 #[.pointer (some ⟨K, 0, none⟩), .int .i64 1, .agg A]) :
    Calls Tryz.prog 41 #[.pointer (some ⟨b0, 0, none⟩), .pointer (some ⟨b1, 0, none⟩), .pointer (some ⟨b2, 0, none⟩)] w (Res w0 Out w) := by
  have hal := Go.Joins.below_alloc1 w (.cells ansZ 59)
  have d0 : (w.alloc (.cells ansZ 59)).cell? ⟨b0, 0, none⟩ = some (.pointer (some ⟨K, 0, none⟩)) := (hal.cell (p := ⟨b0, 0, none⟩) (World.block_lt_of_cell? w _ c0)).trans c0
  have d1 : (w.alloc (.cells ansZ 59)).cell? ⟨b1, 0, none⟩ = some (.int .i64 1) := (hal.cell (p := ⟨b1, 0, none⟩) (World.block_lt_of_cell? w _ c1)).trans c1
  have l2 := ld_callR (hr.keep hal) hA
  have HR := Lib.hid (row_new w 59 ansZ)
  have HB := Lib.hid hal
  have HC := Lib.hid (hs _ (h0.trans (hal.mono h0.size)))
  have HOK := Lib.hid ok
  have H0 := Lib.hid h0
  clear hal hr hA hs ok h0 c0 c1
  have hz : ansZ = #[.int .i64 0, .int .i64 0, .int .i64 0, .slice none 0 0, .slice none 0 0, .int .i64 0, .int .i64 0, .int .i64 0, .int .i64 0, .int .i64 0, .int .i64 0] := rfl
  rw [hz] at d0 d1 l2 HB HC
  go_enter Tryz.func41, Tryz.ntmps41
  go_wp2_with (go_at_call 42; refine HC.out.mono ?_; rintro e2 w2 ⟨X, rfl, hX, hone, hu, ho⟩; have hr := ans_row H0.out HR.out (Nat.le_refl _) hu; have hst := ans_st hr hX hone; have HLD := Lib.hid (ans_ldV hr hX); have HP := Lib.hid (HOK.out.put (C := X) H0.out HB.out hu ho (Nat.le_refl _) HR.out.lt); have HX := Lib.hid (And.intro hX hone); clear hr hX hone hu ho; generalize w2.setRow w.heap.size X = w3 at *)
  exact bodyPost_ret (v := .agg X) (by rw [results_cell1 rfl]; simp [asAddr, Result.andThen, HLD.out]) rfl ⟨X, rfl, HX.out.1, HX.out.2, HP.out.1, HP.out.2⟩
set_option maxRecDepth 100000 in
set_option maxHeartbeats 1000000 in
theorem do_is (ok : OutOk w0 Out) {num : Int} (hn : num = 6 ∨ num = 7 ∨ num = 8 ∨ num = 10) (hA : A.size = 7) (ha : A[0]? = some (.int .i64 num)) (hs : Spec w0 Out 89 #[.pointer (some ⟨K, 0, none⟩), .int .i64 1, .agg A]) :
    Spec w0 Out 42 #[.pointer (some ⟨K, 0, none⟩), .int .i64 1, .agg A] := by
  intro w h0
  have hb1 := Go.Joins.below_alloc1 w (.cells A 62)
  have hal : Below w.heap.size w ((w.alloc (.cells A 62)).alloc (.cells ansZ 59)) := hb1.trans ((Go.Joins.below_alloc1 _ _).mono hb1.size)
  have hr1 := (row_new w 62 A).alloc (.cells ansZ 59)
  have hr2 := row_new (w.alloc (.cells A 62)) 59 ansZ
  rw [size_alloc1] at hr2
  have d0 : ((w.alloc (.cells A 62)).alloc (.cells ansZ 59)).cell? ⟨w.heap.size, 0, none⟩ = some (.int .i64 num) := by rw [hr1.cell, ha]
  have l2 := ld_callR hr1 hA
  have HR : Hid (Row ((w.alloc (.cells A 62)).alloc (.cells #[.int .i64 0, .int .i64 0, .int .i64 0, .slice none 0 0, .slice none 0 0, .int .i64 0, .int .i64 0, .int .i64 0, .int .i64 0, .int .i64 0, .int .i64 0] 59)) (w.heap.size + 1) 59 ansZ) := Lib.hid hr2
  have HB := Lib.hid hal
  have HC := Lib.hid (hs _ (h0.trans (hal.mono h0.size)))
  have HOK := Lib.hid ok
  have H0 := Lib.hid h0
  have HLT := Lib.hid hr2.lt
  clear hal hr1 hr2 hA hs ok h0 ha hb1
  have hz : ansZ = #[.int .i64 0, .int .i64 0, .int .i64 0, .slice none 0 0, .slice none 0 0, .int .i64 0, .int .i64 0, .int .i64 0, .int .i64 0, .int .i64 0, .int .i64 0] := rfl
  rw [hz] at d0 l2 HB HC HLT
  rcases hn with rfl | rfl | rfl | rfl
  all_goals
    go_enter Tryz.func42, Tryz.ntmps42
    go_upto_region 1 with fail
    generalize (w.alloc (.cells A 62)).alloc (.cells #[.int .i64 0, .int .i64 0, .int .i64 0, .slice none 0 0, .slice none 0 0, .int .i64 0, .int .i64 0, .int .i64 0, .int .i64 0, .int .i64 0, .int .i64 0] 59) = w1 at *
    go_wp2_with (go_at_call 89; refine HC.out.mono ?_; rintro e2 w2 ⟨X, rfl, hX, hone, hu, ho⟩; have hr := ans_row H0.out HR.out (Nat.le_succ _) hu; have hst := ans_st hr hX hone; have HLD := Lib.hid (ans_ldV hr hX); have HP := Lib.hid (HOK.out.put (C := X) H0.out HB.out hu ho (Nat.le_succ _) HLT.out); have HX := Lib.hid (And.intro hX hone); clear hr hX hone hu ho; generalize w2.setRow (w.heap.size + 1) X = w3 at *)
    exact bodyPost_ret (v := .agg X) (by rw [results_cell1 rfl]; simp [asAddr, Result.andThen, HLD.out]) rfl ⟨X, rfl, HX.out.1, HX.out.2, HP.out.1, HP.out.2⟩
end
end Go.Proofs.YtnbhohaphmilmaaGreatDoor
namespace Go.Proofs.YtnbhohaphmilmaaGreatDoor
open Go.RowKit
set_option linter.unusedVariables false
set_option linter.unusedSimpArgs false
section
variable {w0 w : World} {Out : World → Array Value → World → Prop} {K Pr : Nat} {A : Array Value} {c : Nat → Value}
attribute [local go_sem ↓] ld_ans st_ans ld_call
set_option maxRecDepth 100000 in
set_option maxHeartbeats 1000000 in
theorem ask_is (ok : OutOk w0 Out) (h0 : Below w0.heap.size w0 w) (hq : KQ w K Pr c) (hA : A.size = 7) (hs : Spec w0 Out 42 #[.pointer (some ⟨K, 0, none⟩), .int .i64 1, .agg A]) :
    Calls Tryz.prog 15 #[.pointer (some ⟨K, 0, none⟩), .int .i64 1, .agg A] w (Res w0 Out w) := by
  have hmf : ∀ (fn : Fn) (first cap : Array Value) (w : World), (Instr.makeFunc fn first cap).run Tryz.prog w = .ok (.func fn first cap) w := fun _ _ _ _ => rfl
  have ha : ∀ (w : World) (o1 o2 o3 o4 : Obj), Below w.heap.size w ((((w.alloc o1).alloc o2).alloc o3).alloc o4) ∧ ((((w.alloc o1).alloc o2).alloc o3).alloc o4).heap[w.heap.size]? = some o1 ∧ ((((w.alloc o1).alloc o2).alloc o3).alloc o4).heap[w.heap.size + 1]? = some o2 ∧ ((((w.alloc o1).alloc o2).alloc o3).alloc o4).heap[w.heap.size + 1 + 1]? = some o3 ∧ ((((w.alloc o1).alloc o2).alloc o3).alloc o4).heap[w.heap.size + 1 + 1 + 1]? = some o4 := fun w o1 o2 o3 o4 => by
    have s1 := size_alloc1 w o1
    have s2 := size_alloc1 (w.alloc o1) o2
    have s3 := size_alloc1 ((w.alloc o1).alloc o2) o3
    refine ⟨(((Below.refl _ _).alloc (Nat.le_refl _) _).alloc (by omega) _).alloc (by omega) _ |>.alloc (by omega) _, ?_, ?_, ?_, ?_⟩
    · rw [heap_alloc_old _ _ (by omega), heap_alloc_old _ _ (by omega), heap_alloc_old _ _ (by omega)]; exact heap_alloc_new _ _
    · rw [heap_alloc_old _ _ (by omega), heap_alloc_old _ _ (by omega), ← s1]; exact heap_alloc_new _ _
    · rw [heap_alloc_old _ _ (by omega), show w.heap.size + 1 + 1 = ((w.alloc o1).alloc o2).heap.size by omega]; exact heap_alloc_new _ _
    · rw [show w.heap.size + 1 + 1 + 1 = (((w.alloc o1).alloc o2).alloc o3).heap.size by omega]; exact heap_alloc_new _ _
  obtain ⟨a0, a1, a2, a3, a4⟩ := ha w (.cells #[.pointer (some ⟨K, 0, none⟩)] 28) (.cells #[.int .i64 1] 3) (.cells A 62) (.cells #[.int .i64 0, .int .i64 0, .int .i64 0, .slice none 0 0, .slice none 0 0, .int .i64 0, .int .i64 0, .int .i64 0, .int .i64 0, .int .i64 0, .int .i64 0] 59)
  have HA0 := Lib.hid a0
  have hq1 := hq.keep a0
  have HQ1 := Lib.hid hq1
  have q83 : (((((w.alloc (.cells #[.pointer (some ⟨K, 0, none⟩)] 28)).alloc (.cells #[.int .i64 1] 3)).alloc (.cells A 62)).alloc (.cells #[.int .i64 0, .int .i64 0, .int .i64 0, .slice none 0 0, .slice none 0 0, .int .i64 0, .int .i64 0, .int .i64 0, .int .i64 0, .int .i64 0, .int .i64 0] 59))).cell? ⟨K, 83, none⟩ = some (.bool false) := by rw [hq1.kr.cell (by decide), hq1.sl]
  have HR1 := Lib.hid a1
  have HR2 := Lib.hid a2
  have HR3 := Lib.hid a3
  have HR4 := Lib.hid a4
  have p0 := cell_of_row _ w.heap.size 0 _ _ (0, 0) a1
  have p1 := cell_of_row _ (w.heap.size + 1) 0 _ _ (0, 0) a2
  rw [show (#[Value.pointer (some ⟨K, 0, none⟩)] : Array Value)[0]? = some (.pointer (some ⟨K, 0, none⟩)) from rfl] at p0
  rw [show (#[Value.int .i64 1] : Array Value)[0]? = some (.int .i64 1) from rfl] at p1
  have HOK := Lib.hid ok
  have H0 := Lib.hid h0
  have HS := Lib.hid hs
  have HAS := Lib.hid hA
  clear ha a0 a1 a2 a3 a4 hq hq1 ok h0 hs hA
  go_enter Tryz.func15, Tryz.ntmps15
  go_upto_region 1 with fail
  generalize (((((w.alloc (.cells #[.pointer (some ⟨K, 0, none⟩)] 28)).alloc (.cells #[.int .i64 1] 3)).alloc (.cells A 62)).alloc (.cells #[.int .i64 0, .int .i64 0, .int .i64 0, .slice none 0 0, .slice none 0 0, .int .i64 0, .int .i64 0, .int .i64 0, .int .i64 0, .int .i64 0, .int .i64 0] 59))) = w1 at *
  have HLV := Lib.hid (living_is HQ1.out)
  go_upto_region 4 with (go_at_call 20; refine HLV.out.mono ?_; rintro e2 w2 ⟨rfl, rfl⟩)
  go_region
  have HBT := Lib.hid (between_is (HQ1.out.keep (Below.refl _ _).drew))
  go_upto_region 7 with (go_at_call 39; refine HBT.out.mono ?_; rintro e3 w3 ⟨rfl, hb3⟩)
  have hb13 : Below w1.heap.size w1 w3 := (Below.refl _ _).drew.trans hb3
  have hr4 : Row w3 (w.heap.size + 1 + 1 + 1) 59 ansZ := Row.keep (c := ansZ) HR4.out hb13
  have HR := Lib.hid hr4
  have HB := Lib.hid (HA0.out.trans (hb13.mono HA0.out.size))
  have hp0 := fun (w4 : World) (hb : Below w3.heap.size w3 w4) => ((hb13.trans (hb.mono hb13.size)).cell (p := ⟨w.heap.size, 0, none⟩) (World.block_lt_of_cell? w1 _ p0)).trans p0
  have hp1 := fun (w4 : World) (hb : Below w3.heap.size w3 w4) => ((hb13.trans (hb.mono hb13.size)).cell (p := ⟨w.heap.size + 1, 0, none⟩) (World.block_lt_of_cell? w1 _ p1)).trans p1
  have hrc : ∀ w4, Below w3.heap.size w3 w4 → Row w4 (w.heap.size + 1 + 1) 62 A := fun w4 hb => Row.keep (c := A) HR3.out (hb13.trans (hb.mono hb13.size))
  have HC := Lib.hid (catch_is HOK.out (H0.out.trans (HB.out.mono H0.out.size)) (fun w4 hb4 => ask1_is HOK.out (H0.out.trans ((HB.out.trans (hb4.mono HB.out.size)).mono H0.out.size)) (hp0 w4 hb4) (hp1 w4 hb4) (hrc w4 hb4) HAS.out HS.out))
  clear hb13 hr4 hp0 hp1 hrc hb3 p0 p1 q83 HBT HLV HR1 HR2 HR3 HR4 HQ1 HA0
  go_wp2_with (go_at_call 40; refine HC.out.mono ?_; rintro e5 w5 ⟨X, rfl, hX, hone, hu, ho⟩; have hr := ans_row H0.out HR.out (by omega) hu; have hst := ans_st hr hX hone; have HLD := Lib.hid (ans_ldV hr hX); have HP := Lib.hid (HOK.out.put (C := X) H0.out HB.out hu ho (by omega) HR.out.lt); have HX := Lib.hid (And.intro hX hone); clear hr hX hone hu ho; generalize w5.setRow (w.heap.size + 1 + 1 + 1) X = w6 at *)
  exact bodyPost_ret (v := .agg X) (by rw [results_cell1 rfl]; simp [asAddr, Result.andThen, HLD.out]) rfl ⟨X, rfl, HX.out.1, HX.out.2, HP.out.1, HP.out.2⟩
end
end Go.Proofs.YtnbhohaphmilmaaGreatDoor
namespace Go.Proofs.YtnbhohaphmilmaaGreatDoor
open Go.RowKit
set_option linter.unusedVariables false
set_option linter.unusedSimpArgs false
theorem _root_.Go.Proofs.YtnbhohaphmilmaaGreatDoor.ProcLaw.TabAt.upd {S : Nat → Prop} {w w' : World} {b : Nat} {t : ProcLaw.T} (h : ProcLaw.TabAt w b t) (hu : Upd S w w') (hn : ¬ S b) : ProcLaw.TabAt w' b t :=
  ⟨Nat.lt_of_lt_of_le h.lt hu.size, fun i => (hu.frozen h.lt hn).trans (h.fz i), fun k hk => (hu.cell h.lt hn).trans (h.st k hk), fun k hk => (hu.cell h.lt hn).trans (h.par k hk), fun k hk => (hu.cell h.lt hn).trans (h.gr k hk), fun k hk => (hu.cell h.lt hn).trans (h.code k hk)⟩
theorem _root_.Go.Proofs.YtnbhohaphmilmaaGreatDoor.OpenLaw.OTab.upd {S : Nat → Prop} {w w' : World} {b : Nat} {fs : Nat → OpenLaw.F} {fd : Nat → Nat} (h : OpenLaw.OTab w b fs fd) (hu : Upd S w w') (hn : ¬ S b) : OpenLaw.OTab w' b fs fd :=
  ⟨Nat.lt_of_lt_of_le h.lt hu.size, fun i => (hu.frozen h.lt hn).trans (h.fz i), h.le, fun k hk => (hu.cell h.lt hn).trans (h.c0 k hk), fun k hk => (hu.cell h.lt hn).trans (h.c1 k hk), fun k hk => (hu.cell h.lt hn).trans (h.c2 k hk), fun k hk => (hu.cell h.lt hn).trans (h.c3 k hk), fun k hk => (hu.cell h.lt hn).trans (h.c4 k hk), fun k hk => (hu.cell h.lt hn).trans (h.c5 k hk), fun p j hp hj => (hu.cell h.lt hn).trans (h.d p j hp hj)⟩
theorem kb_upd {b : Nat} {w w' : World} (h : OpenLaw.KB b w w') {S : Nat → Prop} (hS : S b) : Upd S w w' := Upd.grown h hS
theorem bd_ans (ps : Array (Nat × Value)) : Instr.build 59 ps = bdR 59 ps := rfl
theorem bd_thing (ps : Array (Nat × Value)) : Instr.build 194 ps = bdR 194 ps := rfl
theorem bd_fail (w : World) (e : Int) : (bdR 59 #[(0, .int .i64 e)]).run Tryz.prog w = .ok (.agg (ansV e 0 0 (.slice none 0 0))) w := by kernel_rfl
theorem bd_ab (w : World) (a b : Int) : (bdR 59 #[(1, .int .i64 a), (2, .int .i64 b)]).run Tryz.prog w = .ok (.agg (ansV 0 a b (.slice none 0 0))) w := by kernel_rfl
theorem bd_ea (w : World) (e a : Int) : (bdR 59 #[(0, .int .i64 e), (1, .int .i64 a)]).run Tryz.prog w = .ok (.agg (ansV e a 0 (.slice none 0 0))) w := by kernel_rfl
theorem bd_ead (w : World) (e a : Int) (p : Option Addr) (n k : Nat) : (bdR 59 #[(0, .int .i64 e), (1, .int .i64 a), (3, .slice p n k)]).run Tryz.prog w = .ok (.agg (ansV e a 0 (.slice p n k))) w := by kernel_rfl
attribute [local go_sem ↓] bd_ans bd_thing ld_ans st_ans
set_option maxRecDepth 100000 in
set_option maxHeartbeats 400000 in
theorem fail_is (w : World) (e : Int) : Calls Tryz.prog 38 #[.int .i64 e] w fun r w' => r = .returned (.agg (ansV e 0 0 (.slice none 0 0))) ∧ Below w.heap.size w w' := by
  have hbd := fun w => bd_fail w e
  have hz : ansZ = #[.int .i64 0, .int .i64 0, .int .i64 0, .slice none 0 0, .slice none 0 0, .int .i64 0, .int .i64 0, .int .i64 0, .int .i64 0, .int .i64 0, .int .i64 0] := rfl
  have hr := row_new w 59 ansZ
  have hst := ans_st hr (X := ansV e 0 0 (.slice none 0 0)) rfl (ansV_one _ _ _ rfl)
  have HLD := Lib.hid (ans_ldV hr (X := ansV e 0 0 (.slice none 0 0)) rfl)
  have HB : Hid (Below w.heap.size w ((w.alloc (.cells ansZ 59)).setRow w.heap.size (ansV e 0 0 (.slice none 0 0)))) := Lib.hid ((Upd.alloc (S := fun k => k = w.heap.size) w (.cells ansZ 59)).trans (Upd.setRow _ _ rfl) |>.toBelow (Nat.le_refl _) (fun k hk e => by omega))
  rw [hz] at hst HLD HB
  clear hr hz
  generalize ansV e 0 0 (.slice none 0 0) = X at *
  go_enter Tryz.func38, Tryz.ntmps38
  go_wp2
  exact bodyPost_ret (v := .agg X) (by rw [results_cell1 rfl]; simp [asAddr, Result.andThen, HLD.out]) rfl ⟨rfl, HB.out⟩
end Go.Proofs.YtnbhohaphmilmaaGreatDoor
namespace Go.Proofs.YtnbhohaphmilmaaGreatDoor
open Go.RowKit
set_option linter.unusedVariables false
set_option linter.unusedSimpArgs false
/-- a wheel's timers as cells -/
def tmC (l : List (Int × Int)) : List Value := l.flatMap fun x => [.int .u32 x.1, .int .i64 x.2]
/-- a wheel: its struct in block b, its timers' rows -/
structure WhlG (w : World) (b : Nat) (nw : Int) (v : Value) (l : List (Int × Int)) : Prop where
  row : Row w b 192 #[.int .u32 nw, v]
  own : w.ownsRow 0 249 2 v l.length (tmC l)
  ne : v.ownBlock ≠ some b
/-- its blocks -/
def wB (b : Nat) (v : Value) (k : Nat) : Prop := k = b ∨ v.ownBlock = some k
theorem WhlG.upd {S : Nat → Prop} {w w' : World} {b : Nat} {nw : Int} {v : Value} {l : List (Int × Int)} (h : WhlG w b nw v l) (hu : Upd S w w') (hn : ∀ k, wB b v k → ¬ S k) : WhlG w' b nw v l := ⟨h.row.upd hu (hn _ (.inl rfl)), hu.owns h.own (fun k e => hn k (.inr e)), h.ne⟩
theorem WhlG.lt {w : World} {b : Nat} {nw : Int} {v : Value} {l : List (Int × Int)} (h : WhlG w b nw v l) {k : Nat} (hk : wB b v k) : k < w.heap.size := by
  rcases hk with rfl | e
  · exact h.row.lt
  · exact (h.own.lt k e).2
/-- where the kernel's parts lie -/
structure KC where
  K : Nat
  Wh : Nat
  Fi : Nat
  Pr : Nat
  R : Nat
  M : Nat
  so : Nat
/-- what they are -/
structure KSt where
  tag : Nat → Nat
  c : Nat → Value
  t : ProcLaw.T
  fs : Nat → OpenLaw.F
  fd : Nat → Nat
  ad : Option Addr
  cap : Nat
  l : List Tk
  m : MS
  cw : Nat → Option Nat
  nc : Nat
  tk : Int
  fr : Int
  sl : Int
  wn : Int
  wv : Value
  wl : List (Int × Int)
structure KT (w : World) (k : KC) (s : KSt) : Prop where
  kr : KR w k.K s.c
  c1 : s.c 1 = .pointer (some ⟨k.M, 0, none⟩)
  c4 : s.c 4 = .pointer (some ⟨k.R, 0, none⟩)
  c5 : s.c 5 = .pointer (some ⟨k.Wh, 0, none⟩)
  c6 : s.c 6 = .pointer (some ⟨k.Fi, 0, none⟩)
  c7 : s.c 7 = .pointer (some ⟨k.Pr, 0, none⟩)
  wh : WhlG w k.Wh s.wn s.wv s.wl
  fi : OpenLaw.OTab w k.Fi s.fs s.fd
  pr : ProcLaw.TabAt w k.Pr s.t
  ru : RunG w k.R s.ad s.cap s.nc s.tk (onePin s.nc) s.l
  me : MemG w k.M k.so s.fr s.sl s.m
  cw : ∀ p b, s.cw p = some b → (∃ cp, s.c (8 + p * 38 + 17) = .slice (some ⟨b, 0, none⟩) 1 cp) ∧ w.cell? ⟨b, 0, none⟩ = some (.int .i64 1) ∧ b < w.heap.size ∧ s.tag b = 7
  tK : s.tag k.K = 1
  tWh : ∀ j, wB k.Wh s.wv j → s.tag j = 2
  tFi : s.tag k.Fi = 3
  tPr : s.tag k.Pr = 4
  tR : ∀ j, rS k.R s.ad j → s.tag j = 5
  tM : ∀ j, mB k.M k.so s.m j → s.tag j = 6
  tz : ∀ j, w.heap.size ≤ j → s.tag j = 0
  cn : 1 ≤ s.nc ∧ s.nc ≤ 4
  fn : 4 ≤ s.fr ∧ s.fr ≤ 64 ∧ 0 ≤ s.sl ∧ s.sl ≤ 64
open Classical in
/-- tags behind a call that made blocks from B on: those of S bear i -/
noncomputable def tg (tag : Nat → Nat) (B : Nat) (S : Nat → Prop) (i : Nat) : Nat → Nat := fun j => if j < B then tag j else if S j then i else 0
theorem tg_old {tag : Nat → Nat} {B : Nat} {S : Nat → Prop} {i j : Nat} (h : j < B) : tg tag B S i j = tag j := if_pos h
theorem tg_new {tag : Nat → Nat} {B : Nat} {S : Nat → Prop} {i j : Nat} (h : B ≤ j) (hs : S j) : tg tag B S i j = i := by
  unfold tg
  rw [if_neg (by omega), if_pos hs]
theorem tg_no {tag : Nat → Nat} {B : Nat} {S : Nat → Prop} {i j : Nat} (h : B ≤ j) (hs : ¬ S j) : tg tag B S i j = 0 := by
  unfold tg
  rw [if_neg (by omega), if_neg hs]
/-- a state's blocks are those of before, or new ones -/
def FarT (tag0 : Nat → Nat) (B : Nat) (tag : Nat → Nat) : Prop := ∀ j, tag j ≠ 0 → tag0 j ≠ 0 ∨ B ≤ j
section
variable {w w' : World} {k : KC} {s : KSt}
theorem KT.lt (h : KT w k s) {j : Nat} (hj : s.tag j ≠ 0) : j < w.heap.size := by
  rcases Nat.lt_or_ge j w.heap.size with q | q
  · exact q
  · exact absurd (h.tz j q) hj
theorem KT.far (h : KT w k s) (B : Nat) : FarT s.tag B s.tag := fun j hj => .inl hj
theorem KT.upd {S : Nat → Prop} (h : KT w k s) (hu : Upd S w w') (hn : ∀ j, s.tag j ≠ 0 → ¬ S j) : KT w' k s := by
  have n : ∀ {j i}, s.tag j = i → i ≠ 0 → ¬ S j := fun e hi => hn _ (by rw [e]; exact hi)
  exact ⟨h.kr.upd hu (n h.tK (by decide)), h.c1, h.c4, h.c5, h.c6, h.c7, h.wh.upd hu (fun j hj => n (h.tWh j hj) (by decide)), h.fi.upd hu (n h.tFi (by decide)), h.pr.upd hu (n h.tPr (by decide)), h.ru.upd hu (n (h.tR _ (.inl rfl)) (by decide)) (fun a e => n (h.tR _ (.inr ⟨a, e, rfl⟩)) (by decide)), h.me.upd hu (fun j hj => n (h.tM j hj) (by decide)), fun p b hb => by
    obtain ⟨h1, h2, h3, h4⟩ := h.cw p b hb
    exact ⟨h1, (hu.cell h3 (n h4 (by decide))).trans h2, Nat.lt_of_lt_of_le h3 hu.size, h4⟩, h.tK, h.tWh, h.tFi, h.tPr, h.tR, h.tM, fun j hj => h.tz j (Nat.le_trans hu.size hj), h.cn, h.fn⟩
theorem KT.keep (h : KT w k s) (hb : Below w.heap.size w w') : KT w' k s := h.upd (S := fun _ => False) (Upd.below hb) (fun _ _ e => e)
/-- another memory -/
theorem KT.mem {m' : MS} (h : KT w k s) (hm : MemG w' k.M k.so s.fr s.sl m') (hu : Upd (mB k.M k.so s.m) w w') (hB : ∀ j, mB k.M k.so m' j → mB k.M k.so s.m j ∨ w.heap.size ≤ j) : KT w' k { s with m := m', tag := tg s.tag w.heap.size (mB k.M k.so m') 6 } := by
  have n : ∀ {j i}, s.tag j = i → i ≠ 6 → ¬ mB k.M k.so s.m j := fun e hi q => hi (e.symm.trans (h.tM _ q))
  have o : ∀ {j i}, s.tag j = i → i ≠ 0 → tg s.tag w.heap.size (mB k.M k.so m') 6 j = i := fun e hi => (tg_old (h.lt (by rw [e]; exact hi))).trans e
  exact ⟨h.kr.upd hu (n h.tK (by decide)), h.c1, h.c4, h.c5, h.c6, h.c7, h.wh.upd hu (fun j hj => n (h.tWh j hj) (by decide)), h.fi.upd hu (n h.tFi (by decide)), h.pr.upd hu (n h.tPr (by decide)), h.ru.upd hu (n (h.tR _ (.inl rfl)) (by decide)) (fun a e => n (h.tR _ (.inr ⟨a, e, rfl⟩)) (by decide)), hm, fun p b hb => by
    obtain ⟨h1, h2, h3, h4⟩ := h.cw p b hb
    exact ⟨h1, (hu.cell h3 (n h4 (by decide))).trans h2, Nat.lt_of_lt_of_le h3 hu.size, o h4 (by decide)⟩, o h.tK (by decide), fun j hj => o (h.tWh j hj) (by decide), o h.tFi (by decide), o h.tPr (by decide), fun j hj => o (h.tR j hj) (by decide), fun j hj => by
    rcases hB j hj with q | q
    · exact o (h.tM j q) (by decide)
    · exact tg_new q hj, fun j hj => tg_no (Nat.le_trans hu.size hj) (fun q => by have := hm.lt q; omega), h.cn, h.fn⟩
/-- another run -/
theorem KT.run {ad' : Option Addr} {cap' : Nat} {l' : List Tk} {tk' : Int} (h : KT w k s) (hr : RunG w' k.R ad' cap' s.nc tk' (onePin s.nc) l') (hu : Upd (rS k.R s.ad) w w') (hB : ∀ j, rS k.R ad' j → rS k.R s.ad j ∨ w.heap.size ≤ j) : KT w' k { s with ad := ad', cap := cap', l := l', tk := tk', tag := tg s.tag w.heap.size (rS k.R ad') 5 } := by
  have n : ∀ {j i}, s.tag j = i → i ≠ 5 → ¬ rS k.R s.ad j := fun e hi q => hi (e.symm.trans (h.tR _ q))
  have o : ∀ {j i}, s.tag j = i → i ≠ 0 → tg s.tag w.heap.size (rS k.R ad') 5 j = i := fun e hi => (tg_old (h.lt (by rw [e]; exact hi))).trans e
  exact ⟨h.kr.upd hu (n h.tK (by decide)), h.c1, h.c4, h.c5, h.c6, h.c7, h.wh.upd hu (fun j hj => n (h.tWh j hj) (by decide)), h.fi.upd hu (n h.tFi (by decide)), h.pr.upd hu (n h.tPr (by decide)), hr, h.me.upd hu (fun j hj => n (h.tM j hj) (by decide)), fun p b hb => by
    obtain ⟨h1, h2, h3, h4⟩ := h.cw p b hb
    exact ⟨h1, (hu.cell h3 (n h4 (by decide))).trans h2, Nat.lt_of_lt_of_le h3 hu.size, o h4 (by decide)⟩, o h.tK (by decide), fun j hj => o (h.tWh j hj) (by decide), o h.tFi (by decide), o h.tPr (by decide), fun j hj => by
    rcases hB j hj with q | q
    · exact o (h.tR j q) (by decide)
    · exact tg_new q hj, fun j hj => o (h.tM j hj) (by decide), fun j hj => tg_no (Nat.le_trans hu.size hj) (fun q => by
      rcases q with q | ⟨a, e, q⟩
      · have := hr.lt; omega
      · have := (hr.ltT e).1; omega), h.cn, h.fn⟩
/-- another wheel -/
theorem KT.whl {nw' : Int} {v' : Value} {l' : List (Int × Int)} (h : KT w k s) (hw : WhlG w' k.Wh nw' v' l') (hu : Upd (wB k.Wh s.wv) w w') (hB : ∀ j, wB k.Wh v' j → wB k.Wh s.wv j ∨ w.heap.size ≤ j) : KT w' k { s with wn := nw', wv := v', wl := l', tag := tg s.tag w.heap.size (wB k.Wh v') 2 } := by
  have n : ∀ {j i}, s.tag j = i → i ≠ 2 → ¬ wB k.Wh s.wv j := fun e hi q => hi (e.symm.trans (h.tWh _ q))
  have o : ∀ {j i}, s.tag j = i → i ≠ 0 → tg s.tag w.heap.size (wB k.Wh v') 2 j = i := fun e hi => (tg_old (h.lt (by rw [e]; exact hi))).trans e
  exact ⟨h.kr.upd hu (n h.tK (by decide)), h.c1, h.c4, h.c5, h.c6, h.c7, hw, h.fi.upd hu (n h.tFi (by decide)), h.pr.upd hu (n h.tPr (by decide)), h.ru.upd hu (n (h.tR _ (.inl rfl)) (by decide)) (fun a e => n (h.tR _ (.inr ⟨a, e, rfl⟩)) (by decide)), h.me.upd hu (fun j hj => n (h.tM j hj) (by decide)), fun p b hb => by
    obtain ⟨h1, h2, h3, h4⟩ := h.cw p b hb
    exact ⟨h1, (hu.cell h3 (n h4 (by decide))).trans h2, Nat.lt_of_lt_of_le h3 hu.size, o h4 (by decide)⟩, o h.tK (by decide), fun j hj => by
    rcases hB j hj with q | q
    · exact o (h.tWh j q) (by decide)
    · exact tg_new q hj, o h.tFi (by decide), o h.tPr (by decide), fun j hj => o (h.tR j hj) (by decide), fun j hj => o (h.tM j hj) (by decide), fun j hj => tg_no (Nat.le_trans hu.size hj) (fun q => by have := hw.lt q; omega), h.cn, h.fn⟩
/-- another table of processes -/
theorem KT.procs {t' : ProcLaw.T} (h : KT w k s) (hp : ProcLaw.TabAt w' k.Pr t') (hu : Upd (fun j => j = k.Pr) w w') : KT w' k { s with t := t' } := by
  have n : ∀ {j i}, s.tag j = i → i ≠ 4 → ¬ j = k.Pr := fun e hi q => hi (e.symm.trans (q ▸ h.tPr))
  exact ⟨h.kr.upd hu (n h.tK (by decide)), h.c1, h.c4, h.c5, h.c6, h.c7, h.wh.upd hu (fun j hj => n (h.tWh j hj) (by decide)), h.fi.upd hu (n h.tFi (by decide)), hp, h.ru.upd hu (n (h.tR _ (.inl rfl)) (by decide)) (fun a e => n (h.tR _ (.inr ⟨a, e, rfl⟩)) (by decide)), h.me.upd hu (fun j hj => n (h.tM j hj) (by decide)), fun p b hb => by
    obtain ⟨h1, h2, h3, h4⟩ := h.cw p b hb
    exact ⟨h1, (hu.cell h3 (n h4 (by decide))).trans h2, Nat.lt_of_lt_of_le h3 hu.size, h4⟩, h.tK, h.tWh, h.tFi, h.tPr, h.tR, h.tM, fun j hj => h.tz j (Nat.le_trans hu.size hj), h.cn, h.fn⟩
/-- another table of descriptors -/
theorem KT.files {fs' : Nat → OpenLaw.F} {fd' : Nat → Nat} (h : KT w k s) (hf : OpenLaw.OTab w' k.Fi fs' fd') (hu : Upd (fun j => j = k.Fi) w w') : KT w' k { s with fs := fs', fd := fd' } := by
  have n : ∀ {j i}, s.tag j = i → i ≠ 3 → ¬ j = k.Fi := fun e hi q => hi (e.symm.trans (q ▸ h.tFi))
  exact ⟨h.kr.upd hu (n h.tK (by decide)), h.c1, h.c4, h.c5, h.c6, h.c7, h.wh.upd hu (fun j hj => n (h.tWh j hj) (by decide)), hf, h.pr.upd hu (n h.tPr (by decide)), h.ru.upd hu (n (h.tR _ (.inl rfl)) (by decide)) (fun a e => n (h.tR _ (.inr ⟨a, e, rfl⟩)) (by decide)), h.me.upd hu (fun j hj => n (h.tM j hj) (by decide)), fun p b hb => by
    obtain ⟨h1, h2, h3, h4⟩ := h.cw p b hb
    exact ⟨h1, (hu.cell h3 (n h4 (by decide))).trans h2, Nat.lt_of_lt_of_le h3 hu.size, h4⟩, h.tK, h.tWh, h.tFi, h.tPr, h.tR, h.tM, fun j hj => h.tz j (Nat.le_trans hu.size hj), h.cn, h.fn⟩
/-- other cells of the kernel: those of tasks alone; a task's directory may be another block, which was nobody's -/
theorem KT.cells {c' : Nat → Value} {cw' : Nat → Option Nat} {tag' : Nat → Nat} (h : KT w k s) (hk : KR w' k.K c') (hu : Upd (fun j => j = k.K) w w') (hc : ∀ j, j < 8 → c' j = s.c j) (ht : ∀ j, s.tag j ≠ 0 → tag' j = s.tag j) (ht2 : ∀ j, w'.heap.size ≤ j → tag' j = 0)
    (hw : ∀ p b, cw' p = some b → (∃ cp, c' (8 + p * 38 + 17) = .slice (some ⟨b, 0, none⟩) 1 cp) ∧ w'.cell? ⟨b, 0, none⟩ = some (.int .i64 1) ∧ b < w'.heap.size ∧ tag' b = 7) : KT w' k { s with c := c', cw := cw', tag := tag' } := by
  have n : ∀ {j i}, s.tag j = i → i ≠ 1 → ¬ j = k.K := fun e hi q => hi (e.symm.trans (q ▸ h.tK))
  have o : ∀ {j i}, s.tag j = i → i ≠ 0 → tag' j = i := fun {j i} e hi => (ht j (by rw [e]; exact hi)).trans e
  exact ⟨hk, (hc 1 (by decide)).trans h.c1, (hc 4 (by decide)).trans h.c4, (hc 5 (by decide)).trans h.c5, (hc 6 (by decide)).trans h.c6, (hc 7 (by decide)).trans h.c7, h.wh.upd hu (fun j hj => n (h.tWh j hj) (by decide)), h.fi.upd hu (n h.tFi (by decide)), h.pr.upd hu (n h.tPr (by decide)), h.ru.upd hu (n (h.tR _ (.inl rfl)) (by decide)) (fun a e => n (h.tR _ (.inr ⟨a, e, rfl⟩)) (by decide)), h.me.upd hu (fun j hj => n (h.tM j hj) (by decide)), hw, o h.tK (by decide), fun j hj => o (h.tWh j hj) (by decide), o h.tFi (by decide), o h.tPr (by decide), fun j hj => o (h.tR j hj) (by decide), fun j hj => o (h.tM j hj) (by decide), ht2, h.cn, h.fn⟩
/-- what an answer may be, and how the state stands behind it -/
def KOut (B0 : Nat) (k : KC) (tag0 : Nat → Nat) (T : KSt → Int → Int → Int → Prop) (w : World) (X : Array Value) (w' : World) : Prop :=
  ∃ s e a b, KT w' k s ∧ FarT tag0 w.heap.size s.tag ∧ X = ansV e a b (.slice none 0 0) ∧ T s e a b ∧ Upd (fun j => tag0 j ≠ 0) w w'
theorem kout_ok {w0 : World} {tag0 : Nat → Nat} (hz : ∀ j, w0.heap.size ≤ j → tag0 j = 0) (T : KSt → Int → Int → Int → Prop) : OutOk w0 (KOut w0.heap.size k tag0 T) := by
  refine ⟨?_, ?_, ?_⟩
  · rintro w w1 w2 b C X h0 h1 ⟨s, e, a, r, hs, hf, hX, hT, hU⟩ hb hb1
    have z0 := h0.size
    have z1 := h1.size
    have u : Upd (fun k => k = b) w2 (w2.setRow b C) := Upd.setRow w2 C rfl
    refine ⟨s, e, a, r, hs.upd u (fun j hj q => ?_), fun j hj => ?_, hX, hT, ((Upd.below h1).trans hU).trans' u (fun i hi e => by omega)⟩
    · rcases hf j hj with e | e
      · exact e (hz j (by omega))
      · omega
    · exact (hf j hj).imp_right fun e => by omega
  · rintro w w1 w2 X h0 h1 ⟨s, e, a, r, hs, hf, hX, hT, hU⟩
    have z1 := h1.size
    exact ⟨s, e, a, r, hs, fun j hj => (hf j hj).imp_right fun e => by omega, hX, hT, (Upd.below h1).trans hU⟩
  · rintro w X w2 w3 ⟨s, e, a, r, hs, hf, hX, hT, hU⟩ hb
    exact ⟨s, e, a, r, hs.keep hb, hf, hX, hT, hU.trans (Upd.below hb)⟩
end
end Go.Proofs.YtnbhohaphmilmaaGreatDoor
