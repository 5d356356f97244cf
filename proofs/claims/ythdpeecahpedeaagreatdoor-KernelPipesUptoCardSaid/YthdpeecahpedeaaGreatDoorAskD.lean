/- Sets of signals by whole rows: the walks of Take and sigs; sets compared. The walks of the kernel's living, between, fail. The walks of Ask's closure, do, Ask. The walk of the kernel's Ask. -/
import Derived.Test.YthdpeecahpedeaaGreatDoorSigNext
import Derived.Laws.StructEq
import Derived.ChangeKeysEq
import Derived.Test.YthdpeecahpedeaaGreatDoorSigPlain
namespace Go.Proofs.YthdpeecahpedeaaGreatDoor.SigLaw
set_option linter.unusedSimpArgs false
open Go.RowKit
set_option linter.unusedVariables false
theorem part_at (g : G) (i : Nat) (hi : i < 16) (w : World) : (part 3 #[.int .i64 (g.h 0), .int .i64 (g.h 1), .int .i64 (g.h 2), .int .i64 (g.h 3), .int .i64 (g.h 4), .int .i64 (g.h 5), .int .i64 (g.h 6), .int .i64 (g.h 7), .int .i64 (g.h 8), .int .i64 (g.h 9), .int .i64 (g.h 10), .int .i64 (g.h 11), .int .i64 (g.h 12), .int .i64 (g.h 13), .int .i64 (g.h 14), .int .i64 (g.h 15)] (i * 1)).run Tryz.prog w = .ok (.int .i64 (g.h i)) w := by
  have : i = 0 ∨ i = 1 ∨ i = 2 ∨ i = 3 ∨ i = 4 ∨ i = 5 ∨ i = 6 ∨ i = 7 ∨ i = 8 ∨ i = 9 ∨ i = 10 ∨ i = 11 ∨ i = 12 ∨ i = 13 ∨ i = 14 ∨ i = 15 := by omega
  rcases this with rfl | rfl | rfl | rfl | rfl | rfl | rfl | rfl | rfl | rfl | rfl | rfl | rfl | rfl | rfl | rfl <;> simp [part, go_sem]
theorem items_same (w : World) (h : Nat → Int) (A : Array Value) (hA : ∀ i, i < 16 → ∀ w, (part 3 A (i * 1)).run Tryz.prog w = .ok (.int .i64 (h i)) w) : ∀ is : List Nat, (∀ i ∈ is, i < 16) → (Op.eqItems 9998 3 1 A A is).run Tryz.prog w = .ok true w := by
  intro is
  induction is with
  | nil => intro _; simp [Op.eqItems]
  | cons i is ih =>
    intro hi
    have h1 := hA i (hi i (by simp)) w
    have h2 := ih (fun j hj => hi j (by simp [hj]))
    simp only [Op.eqItems, Sem.run_bind, h1, Result.andThen_ok]
    have h3 := run_equalIn_int w 9997 3 .i64 .i64 (h i) (h i) Tryz.underlying3
    simp only [show (9997 : Nat) + 1 = 9998 from rfl] at h3
    simp [h2, h3]
theorem eq56 (g : G) (w : World) : (Op.equalIn 9999 56 (arrG g) (arrG g)).run Tryz.prog w = .ok true w := by
  rw [show (9999 : Nat) = 9998 + 1 from rfl, run_equalIn_array w 9998 _ _ Tryz.underlying56 (i := Tryz.t3) (by kernel_rfl), show Tryz.prog.cellsOf 3 = 1 from by kernel_rfl]
  exact items_same w g.h _ (fun i hi w => part_at g i hi w) _ (fun i hi => by simpa using hi)
set_option maxRecDepth 100000 in
set_option maxHeartbeats 1000000 in
theorem eq58 (g : G) (w : World) : (Op.equalIn 10000 58 (.agg (cellsA g)) (.agg (cellsA g))).run Tryz.prog w = .ok true w := by
  have h := eq56 g w
  unfold cellsA
  simp [go_sem, h]
attribute [local go_sem ↓] load58_eq store58_eq zero58 cells58
theorem results_cell4 {fn : Func} {p u x y : Tmp} {ty : TypeId} (h : fn.results = #[.cell p ty, .tmp u, .tmp x, .tmp y]) (tmps : Array Value) (P : Program) (w : World) :
    (results fn tmps).run P w = ((asAddr (tmps.getD p undef)).run P w).andThen fun a w1 => ((loadVar ty a).run P w1).andThen fun v w2 => .ok (.tuple #[v, tmps.getD u undef, tmps.getD x undef, tmps.getD y undef]) w2 := by
  unfold results
  rw [h]
  simp
def TakePost (g : G) (P M : Nat) (w : World) (e : Ending) (w' : World) : Prop :=
  Below w.heap.size w w' ∧ ((∃ v n hw, e = .returned (.tuple #[.agg (cellsA v), .int .i64 n, .int .i64 hw, .int .i64 4])) ∨ ∃ k : Nat, 1 ≤ k ∧ k ≤ 15 ∧ P.testBit k = true ∧ e = .returned (.tuple #[.agg (cellsA ⟨(less P (1 <<< k) : Nat), g.m, g.h⟩), .int .i64 k, .int .i64 (g.h k), .int .i64 0]))
set_option maxRecDepth 100000 in
set_option maxHeartbeats 1000000 in
theorem take_is (g : G) (P M : Nat) (w : World) (hB : BB g) (hr : Right g P M) : Calls Tryz.prog 32 #[.agg (cellsA g)] w (TakePost g P M w) := by
  have HC := Lib.hid (next_is g ((w.alloc (.cells (cellsA g) 58)).alloc (.cells (cellsA zeroG) 58)) hB)
  have HT := Lib.hid (two_new w g)
  have hl := (two_new w g).R.load
  have HR := Lib.hid hr
  clear hB hr
  go_enter Tryz.func32, Tryz.ntmps32
  go_wp2_with fail
  refine HC.out.mono ?_
  rintro e w1 ⟨n, en, rfl, hb1, hcase⟩
  have HT1 := Lib.hid (HT.out.keep hb1)
  clear hb1 hl HC HT
  have hcase2 : en = 4 ∨ (en = 0 ∧ ∃ k : Nat, n = k ∧ 1 ≤ k ∧ k ≤ 15 ∧ P.testBit k = true) := by
    rcases hcase with ⟨_, h⟩ | ⟨P', M', hr', ⟨h0, k, hk, k1, k2, hP, -, -⟩ | ⟨h4, -⟩⟩
    · exact absurd ⟨P, M, HR.out⟩ h
    · have : P' = P := by have a := hr'.p; have b := HR.out.p; omega
      subst this
      exact .inr ⟨h0, k, hk, k1, k2, hP⟩
    · exact .inl h4
  clear hcase
  rcases hcase2 with rfl | ⟨rfl, k, rfl, k1, k2, hP⟩
  · have hz := fun g' => HT1.out.Z.store g'
    go_wp2
    exact bodyPost_ret (v := .tuple #[.agg (cellsA zeroG), .int .i64 0, .int .i64 0, .int .i64 4]) (by rw [results_cell4 rfl]; simp [asAddr, Result.andThen, (HT1.out.store zeroG).Z.loadVar]) rfl ⟨(HT1.out.store zeroG).B, .inl ⟨zeroG, 0, 0, rfl⟩⟩
  · have c0 := HT1.out.R.c0
    have f0 := HT1.out.R.fz 0
    have hgp := HR.out.p
    have e1 : bits .andNot .i64 g.p (wrap64 (2 ^ k)) = ((less P (1 <<< k) : Nat) : Int) := by
      rw [hgp, wrap_pow k2, show ((2 : Int) ^ k) = ((1 <<< k : Nat) : Int) from by rw [Nat.one_shiftLeft]; norm_cast]
      exact i64_andNot P (1 <<< k) (by have := HR.out.pl; omega) (by have := one_shift k (by omega); omega)
    obtain ⟨g2, hg2⟩ : ∃ g2 : G, g2 = ⟨((less P (1 <<< k) : Nat) : Int), g.m, g.h⟩ := ⟨_, rfl⟩
    have HT2 := Lib.hid (HT1.out.setP ((less P (1 <<< k) : Nat) : Int)).drew
    rw [← hg2] at HT2
    have HG2 := Lib.hid hg2
    have hgh : g2.h k = g.h k := by rw [hg2]
    have HGH := Lib.hid hgh
    have HP := Lib.hid hP
    have HK := Lib.hid (And.intro k1 k2)
    have hk16 : (k : Int) < 16 := by omega
    have hk0 : 0 ≤ (k : Int) := by omega
    clear hg2 hgh hP k1 k2 hgp
    go_wp2_with fail
    go_region
    clear c0 f0
    revert HT2
    generalize hw2 : World.drew _ = w2
    intro HT2
    clear hw2
    have hl := HT2.out.drew.R.load
    have hz := HT2.out.drew.Z.store g2
    have nk := HT2.out.drew.R.ch (k := k) (by have := HK.out; omega)
    rw [HGH.out] at nk
    have nk2 := (HT2.out.drew.store g2).R.ch (k := k) (by have := HK.out; omega)
    rw [HGH.out] at nk2
    go_wp2_with fail
    go_region
    go_wp2
    refine bodyPost_ret (v := .tuple #[.agg (cellsA g2), .int .i64 k, .int .i64 (g.h k), .int .i64 0]) (by rw [results_cell4 rfl]; simp [asAddr, Result.andThen, (HT2.out.drew.store g2).Z.loadVar]) rfl ⟨(HT2.out.drew.store g2).B, .inr ⟨k, HK.out.1, HK.out.2, HP.out, ?_⟩⟩
    rw [← HG2.out]
end Go.Proofs.YthdpeecahpedeaaGreatDoor.SigLaw
namespace Go.Proofs.YthdpeecahpedeaaGreatDoor
open Go.RowKit
set_option linter.unusedVariables false
set_option linter.unusedSimpArgs false
/-- a kernel whose process 1 lives, is awake, and has no signal -/
structure KQ (w : World) (K Pr : Nat) (c : Nat → Value) : Prop where
  kr : KR w K c
  c7 : c 7 = .pointer (some ⟨Pr, 0, none⟩)
  sl : c 83 = .bool false
  sg : ∀ j, j < 18 → c (65 + j) = kz (65 + j)
  pr : ProcLaw.TabAt w Pr ProcLaw.start
theorem KQ.keep {w w' : World} {K Pr : Nat} {c : Nat → Value} (h : KQ w K Pr c) (hb : Below w.heap.size w w') : KQ w' K Pr c := ⟨h.kr.keep hb, h.c7, h.sl, h.sg, h.pr.keep hb⟩
theorem ld_sig (v : Value) : Instr.loadAt 58 v = ldR 58 v := rfl
theorem st_sig (p v : Value) : Instr.storeAt 58 p v = stR 58 p v := rfl
theorem kz_sig : (List.range 18).map (fun j => kz (65 + j)) = List.replicate 18 (.int .i64 0) := by kernel_rfl
section
variable {w : World} {K Pr : Nat} {c : Nat → Value}
theorem sig_cells (h : ∀ j, j < 18 → c (65 + j) = kz (65 + j)) : (kerA c).extract 65 (65 + 18) = SigLaw.cellsA SigLaw.zeroG := by
  apply Array.ext
  · simp [kerA_size]; rfl
  · intro i h1 h2
    have hi : i < 18 := by simp [kerA_size] at h1; omega
    have e : kz (65 + i) = .int .i64 0 := by
      have : (List.map (fun j => kz (65 + j)) (List.range 18))[i]? = (List.replicate 18 (Value.int .i64 0))[i]? := by rw [kz_sig]
      rw [List.getElem?_map, List.getElem?_range hi, List.getElem?_replicate, if_pos hi] at this
      exact Option.some.inj this
    simp only [Array.getElem_extract, kerA, Array.getElem_ofFn]
    rw [h i hi, e]
    have : i = 0 ∨ i = 1 ∨ i = 2 ∨ i = 3 ∨ i = 4 ∨ i = 5 ∨ i = 6 ∨ i = 7 ∨ i = 8 ∨ i = 9 ∨ i = 10 ∨ i = 11 ∨ i = 12 ∨ i = 13 ∨ i = 14 ∨ i = 15 ∨ i = 16 ∨ i = 17 := by omega
    rcases this with rfl | rfl | rfl | rfl | rfl | rfl | rfl | rfl | rfl | rfl | rfl | rfl | rfl | rfl | rfl | rfl | rfl | rfl <;> rfl
theorem sig_right : SigLaw.Right SigLaw.zeroG 0 0 := by constructor <;> first | rfl | decide | (intro i hi; simp [SigLaw.zeroG])
set_option maxRecDepth 100000 in
set_option maxHeartbeats 400000 in
theorem living_is (h : KQ w K Pr c) : Calls Tryz.prog 11 #[.pointer (some ⟨K, 0, none⟩), .int .i64 1] w fun e w' => e = .returned (.int .i64 0) ∧ w = w' := by
  have q7 : w.cell? ⟨K, 7, none⟩ = some (.pointer (some ⟨Pr, 0, none⟩)) := by rw [h.kr.cell (by decide), h.c7]
  have HS := Lib.hid (ProcLaw.state_is (k := 1) h.pr (by decide) (by decide))
  rw [show (ProcLaw.start 1).st = 1 from rfl] at HS
  clear h
  go_enter Tryz.func11, Tryz.ntmps11
  go_wp2_with (go_at_call 31; refine HS.out.mono ?_; rintro e1 w1 ⟨rfl, rfl⟩)
  go_ret
  exact ⟨rfl, rfl⟩
attribute [local go_sem ↓] ld_sig st_sig
set_option maxRecDepth 100000 in
set_option maxHeartbeats 400000 in
theorem between_is (h : KQ w K Pr c) : Calls Tryz.prog 13 #[.pointer (some ⟨K, 0, none⟩), .int .i64 1] w fun e w' => e = .returned (.tuple #[.int .i64 0, .bool false]) ∧ Below w.heap.size w w' := by
  have l1 : (ldR 58 (.pointer (some ⟨K, 65, none⟩))).run Tryz.prog w = .ok (.agg (SigLaw.cellsA SigLaw.zeroG)) w := by
    rw [Row.ld h.kr (o := 65) (n := 18) (by rw [kerA_size]; decide) Tryz.underlying58 rfl (by kernel_rfl), sig_cells h.sg]
  have HT := Lib.hid (SigLaw.take_is SigLaw.zeroG 0 0 w ⟨⟨by decide, by decide⟩, by decide, by decide⟩ sig_right)
  have HST := Lib.hid (fun (w : World) (g : SigLaw.G) => st0_new w (T := 58) (c := #[.int .i64 0, .int .i64 0, .int .i64 0, .int .i64 0, .int .i64 0, .int .i64 0, .int .i64 0, .int .i64 0, .int .i64 0, .int .i64 0, .int .i64 0, .int .i64 0, .int .i64 0, .int .i64 0, .int .i64 0, .int .i64 0, .int .i64 0, .int .i64 0]) (cs := SigLaw.cellsA g) rfl (by kernel_rfl) (SigLaw.cellsA_one g))
  clear h
  generalize SigLaw.cellsA SigLaw.zeroG = ZG at *
  go_enter Tryz.func13, Tryz.ntmps13
  go_wp2_with (go_at_call 32; refine HT.out.mono ?_; rintro e1 w1 ⟨hb1, h1⟩; (rcases h1 with ⟨g1, n1, h1, rfl⟩ | ⟨k, _, _, hk, _⟩; rotate_left; exact absurd hk (by simp)); have st1 := HST.out w1 g1; have HB1 := Lib.hid (hb1.trans ((Go.Joins.below_alloc1 w1 (.cells (SigLaw.cellsA g1) 58)).mono hb1.size)); clear hb1; generalize SigLaw.cellsA g1 = C1 at *)
  go_ret2
  exact ⟨rfl, HB1.out⟩
end
end Go.Proofs.YthdpeecahpedeaaGreatDoor
namespace Go.Proofs.YthdpeecahpedeaaGreatDoor
open Go.RowKit
set_option linter.unusedVariables false
set_option linter.unusedSimpArgs false
section
variable {w0 w : World} {Out : World → Array Value → World → Prop} {K Pr b0 b1 b2 : Nat} {A : Array Value} {c : Nat → Value}
theorem ld_callR {w : World} {b : Nat} (hr : Row w b 36 A) (hA : A.size = 7) : (ldR 36 (.pointer (some ⟨b, 0, none⟩))).run Tryz.prog w = .ok (.agg A) w := hr.ld0 Tryz.underlying36 rfl (by rw [hA]; kernel_rfl)
attribute [local go_sem ↓] ld_ans st_ans ld_call
set_option maxRecDepth 100000 in
set_option maxHeartbeats 400000 in
theorem ask1_is (ok : OutOk w0 Out) (h0 : Below w0.heap.size w0 w) (c0 : w.cell? ⟨b0, 0, none⟩ = some (.pointer (some ⟨K, 0, none⟩))) (c1 : w.cell? ⟨b1, 0, none⟩ = some (.int .i64 1)) (hr : Row w b2 36 A) (hA : A.size = 7) (hs : Spec w0 Out 16 #[.pointer (some ⟨K, 0, none⟩), .int .i64 1, .agg A]) :
    Calls Tryz.prog 15 #[.pointer (some ⟨b0, 0, none⟩), .pointer (some ⟨b1, 0, none⟩), .pointer (some ⟨b2, 0, none⟩)] w (Res w0 Out w) := by
  have hal := Go.Joins.below_alloc1 w (.cells ansZ 33)
  have d0 : (w.alloc (.cells ansZ 33)).cell? ⟨b0, 0, none⟩ = some (.pointer (some ⟨K, 0, none⟩)) := (hal.cell (p := ⟨b0, 0, none⟩) (World.block_lt_of_cell? w _ c0)).trans c0
  have d1 : (w.alloc (.cells ansZ 33)).cell? ⟨b1, 0, none⟩ = some (.int .i64 1) := (hal.cell (p := ⟨b1, 0, none⟩) (World.block_lt_of_cell? w _ c1)).trans c1
  have l2 := ld_callR (hr.keep hal) hA
  have HR := Lib.hid (row_new w 33 ansZ)
  have HB := Lib.hid hal
  have HC := Lib.hid (hs _ (h0.trans (hal.mono h0.size)))
  have HOK := Lib.hid ok
  have H0 := Lib.hid h0
  clear hal hr hA hs ok h0 c0 c1
  have hz : ansZ = #[.int .i64 0, .int .i64 0, .int .i64 0, .slice none 0 0, .slice none 0 0, .int .i64 0, .int .i64 0, .int .i64 0, .int .i64 0, .int .i64 0, .int .i64 0] := rfl
  rw [hz] at d0 d1 l2 HB HC
  go_enter Tryz.func15, Tryz.ntmps15
  go_wp2_with (go_at_call 16; refine HC.out.mono ?_; rintro e2 w2 ⟨X, rfl, hX, hone, hu, ho⟩; have hr := ans_row H0.out HR.out (Nat.le_refl _) hu; have hst := ans_st hr hX hone; have HLD := Lib.hid (ans_ldV hr hX); have HP := Lib.hid (HOK.out.put (C := X) H0.out HB.out hu ho (Nat.le_refl _) HR.out.lt); have HX := Lib.hid (And.intro hX hone); clear hr hX hone hu ho; generalize w2.setRow w.heap.size X = w3 at *)
  exact bodyPost_ret (v := .agg X) (by rw [results_cell1 rfl]; simp [asAddr, Result.andThen, HLD.out]) rfl ⟨X, rfl, HX.out.1, HX.out.2, HP.out.1, HP.out.2⟩
set_option maxRecDepth 100000 in
set_option maxHeartbeats 1000000 in
theorem do_is (ok : OutOk w0 Out) {num : Int} (hn : num = 6 ∨ num = 7 ∨ num = 8 ∨ num = 10) (hA : A.size = 7) (ha : A[0]? = some (.int .i64 num)) (hs : Spec w0 Out 35 #[.pointer (some ⟨K, 0, none⟩), .int .i64 1, .agg A]) :
    Spec w0 Out 16 #[.pointer (some ⟨K, 0, none⟩), .int .i64 1, .agg A] := by
  intro w h0
  have hb1 := Go.Joins.below_alloc1 w (.cells A 36)
  have hal : Below w.heap.size w ((w.alloc (.cells A 36)).alloc (.cells ansZ 33)) := hb1.trans ((Go.Joins.below_alloc1 _ _).mono hb1.size)
  have hr1 := (row_new w 36 A).alloc (.cells ansZ 33)
  have hr2 := row_new (w.alloc (.cells A 36)) 33 ansZ
  rw [size_alloc1] at hr2
  have d0 : ((w.alloc (.cells A 36)).alloc (.cells ansZ 33)).cell? ⟨w.heap.size, 0, none⟩ = some (.int .i64 num) := by rw [hr1.cell, ha]
  have l2 := ld_callR hr1 hA
  have HR : Hid (Row ((w.alloc (.cells A 36)).alloc (.cells #[.int .i64 0, .int .i64 0, .int .i64 0, .slice none 0 0, .slice none 0 0, .int .i64 0, .int .i64 0, .int .i64 0, .int .i64 0, .int .i64 0, .int .i64 0] 33)) (w.heap.size + 1) 33 ansZ) := Lib.hid hr2
  have HB := Lib.hid hal
  have HC := Lib.hid (hs _ (h0.trans (hal.mono h0.size)))
  have HOK := Lib.hid ok
  have H0 := Lib.hid h0
  have HLT := Lib.hid hr2.lt
  clear hal hr1 hr2 hA hs ok h0 ha hb1
  have hz : ansZ = #[.int .i64 0, .int .i64 0, .int .i64 0, .slice none 0 0, .slice none 0 0, .int .i64 0, .int .i64 0, .int .i64 0, .int .i64 0, .int .i64 0, .int .i64 0] := rfl
  rw [hz] at d0 l2 HB HC HLT
  rcases hn with rfl | rfl | rfl | rfl
  all_goals
    go_enter Tryz.func16, Tryz.ntmps16
    go_upto_region 1 with fail
    generalize (w.alloc (.cells A 36)).alloc (.cells #[.int .i64 0, .int .i64 0, .int .i64 0, .slice none 0 0, .slice none 0 0, .int .i64 0, .int .i64 0, .int .i64 0, .int .i64 0, .int .i64 0, .int .i64 0] 33) = w1 at *
    go_wp2_with (go_at_call 35; refine HC.out.mono ?_; rintro e2 w2 ⟨X, rfl, hX, hone, hu, ho⟩; have hr := ans_row H0.out HR.out (Nat.le_succ _) hu; have hst := ans_st hr hX hone; have HLD := Lib.hid (ans_ldV hr hX); have HP := Lib.hid (HOK.out.put (C := X) H0.out HB.out hu ho (Nat.le_succ _) HLT.out); have HX := Lib.hid (And.intro hX hone); clear hr hX hone hu ho; generalize w2.setRow (w.heap.size + 1) X = w3 at *)
    exact bodyPost_ret (v := .agg X) (by rw [results_cell1 rfl]; simp [asAddr, Result.andThen, HLD.out]) rfl ⟨X, rfl, HX.out.1, HX.out.2, HP.out.1, HP.out.2⟩
end
end Go.Proofs.YthdpeecahpedeaaGreatDoor
namespace Go.Proofs.YthdpeecahpedeaaGreatDoor
open Go.RowKit
set_option linter.unusedVariables false
set_option linter.unusedSimpArgs false
section
variable {w0 w : World} {Out : World → Array Value → World → Prop} {K Pr : Nat} {A : Array Value} {c : Nat → Value}
attribute [local go_sem ↓] ld_ans st_ans ld_call
set_option maxRecDepth 100000 in
set_option maxHeartbeats 1000000 in
theorem ask_is (ok : OutOk w0 Out) (h0 : Below w0.heap.size w0 w) (hq : KQ w K Pr c) (hA : A.size = 7) (hs : Spec w0 Out 16 #[.pointer (some ⟨K, 0, none⟩), .int .i64 1, .agg A]) :
    Calls Tryz.prog 5 #[.pointer (some ⟨K, 0, none⟩), .int .i64 1, .agg A] w (Res w0 Out w) := by
  have hmf : ∀ (fn : Fn) (first cap : Array Value) (w : World), (Instr.makeFunc fn first cap).run Tryz.prog w = .ok (.func fn first cap) w := fun _ _ _ _ => rfl
  have ha : ∀ (w : World) (o1 o2 o3 o4 : Obj), Below w.heap.size w ((((w.alloc o1).alloc o2).alloc o3).alloc o4) ∧ ((((w.alloc o1).alloc o2).alloc o3).alloc o4).heap[w.heap.size]? = some o1 ∧ ((((w.alloc o1).alloc o2).alloc o3).alloc o4).heap[w.heap.size + 1]? = some o2 ∧ ((((w.alloc o1).alloc o2).alloc o3).alloc o4).heap[w.heap.size + 1 + 1]? = some o3 ∧ ((((w.alloc o1).alloc o2).alloc o3).alloc o4).heap[w.heap.size + 1 + 1 + 1]? = some o4 := fun w o1 o2 o3 o4 => by
    have s1 := size_alloc1 w o1
    have s2 := size_alloc1 (w.alloc o1) o2
    have s3 := size_alloc1 ((w.alloc o1).alloc o2) o3
    refine ⟨(((Below.refl _ _).alloc (Nat.le_refl _) _).alloc (by omega) _).alloc (by omega) _ |>.alloc (by omega) _, ?_, ?_, ?_, ?_⟩
    · rw [heap_alloc_old _ _ (by omega), heap_alloc_old _ _ (by omega), heap_alloc_old _ _ (by omega)]; exact heap_alloc_new _ _
    · rw [heap_alloc_old _ _ (by omega), heap_alloc_old _ _ (by omega), ← s1]; exact heap_alloc_new _ _
    · rw [heap_alloc_old _ _ (by omega), show w.heap.size + 1 + 1 = ((w.alloc o1).alloc o2).heap.size by omega]; exact heap_alloc_new _ _
    · rw [show w.heap.size + 1 + 1 + 1 = (((w.alloc o1).alloc o2).alloc o3).heap.size by omega]; exact heap_alloc_new _ _
  obtain ⟨a0, a1, a2, a3, a4⟩ := ha w (.cells #[.pointer (some ⟨K, 0, none⟩)] 23) (.cells #[.int .i64 1] 3) (.cells A 36) (.cells #[.int .i64 0, .int .i64 0, .int .i64 0, .slice none 0 0, .slice none 0 0, .int .i64 0, .int .i64 0, .int .i64 0, .int .i64 0, .int .i64 0, .int .i64 0] 33)
  have HA0 := Lib.hid a0
  have hq1 := hq.keep a0
  have HQ1 := Lib.hid hq1
  have q83 : (((((w.alloc (.cells #[.pointer (some ⟨K, 0, none⟩)] 23)).alloc (.cells #[.int .i64 1] 3)).alloc (.cells A 36)).alloc (.cells #[.int .i64 0, .int .i64 0, .int .i64 0, .slice none 0 0, .slice none 0 0, .int .i64 0, .int .i64 0, .int .i64 0, .int .i64 0, .int .i64 0, .int .i64 0] 33))).cell? ⟨K, 83, none⟩ = some (.bool false) := by rw [hq1.kr.cell (by decide), hq1.sl]
  have HR1 := Lib.hid a1
  have HR2 := Lib.hid a2
  have HR3 := Lib.hid a3
  have HR4 := Lib.hid a4
  have p0 := cell_of_row _ w.heap.size 0 _ _ (0, 0) a1
  have p1 := cell_of_row _ (w.heap.size + 1) 0 _ _ (0, 0) a2
  rw [show (#[Value.pointer (some ⟨K, 0, none⟩)] : Array Value)[0]? = some (.pointer (some ⟨K, 0, none⟩)) from rfl] at p0
  rw [show (#[Value.int .i64 1] : Array Value)[0]? = some (.int .i64 1) from rfl] at p1
  have HOK := Lib.hid ok
  have H0 := Lib.hid h0
  have HS := Lib.hid hs
  have HAS := Lib.hid hA
  clear ha a0 a1 a2 a3 a4 hq hq1 ok h0 hs hA
  go_enter Tryz.func5, Tryz.ntmps5
  go_upto_region 1 with fail
  generalize (((((w.alloc (.cells #[.pointer (some ⟨K, 0, none⟩)] 23)).alloc (.cells #[.int .i64 1] 3)).alloc (.cells A 36)).alloc (.cells #[.int .i64 0, .int .i64 0, .int .i64 0, .slice none 0 0, .slice none 0 0, .int .i64 0, .int .i64 0, .int .i64 0, .int .i64 0, .int .i64 0, .int .i64 0] 33))) = w1 at *
  have HLV := Lib.hid (living_is HQ1.out)
  go_upto_region 4 with (go_at_call 11; refine HLV.out.mono ?_; rintro e2 w2 ⟨rfl, rfl⟩)
  go_region
  have HBT := Lib.hid (between_is (HQ1.out.keep (Below.refl _ _).drew))
  go_upto_region 7 with (go_at_call 13; refine HBT.out.mono ?_; rintro e3 w3 ⟨rfl, hb3⟩)
  have hb13 : Below w1.heap.size w1 w3 := (Below.refl _ _).drew.trans hb3
  have hr4 : Row w3 (w.heap.size + 1 + 1 + 1) 33 ansZ := Row.keep (c := ansZ) HR4.out hb13
  have HR := Lib.hid hr4
  have HB := Lib.hid (HA0.out.trans (hb13.mono HA0.out.size))
  have hp0 := fun (w4 : World) (hb : Below w3.heap.size w3 w4) => ((hb13.trans (hb.mono hb13.size)).cell (p := ⟨w.heap.size, 0, none⟩) (World.block_lt_of_cell? w1 _ p0)).trans p0
  have hp1 := fun (w4 : World) (hb : Below w3.heap.size w3 w4) => ((hb13.trans (hb.mono hb13.size)).cell (p := ⟨w.heap.size + 1, 0, none⟩) (World.block_lt_of_cell? w1 _ p1)).trans p1
  have hrc : ∀ w4, Below w3.heap.size w3 w4 → Row w4 (w.heap.size + 1 + 1) 36 A := fun w4 hb => Row.keep (c := A) HR3.out (hb13.trans (hb.mono hb13.size))
  have HC := Lib.hid (catch_is HOK.out (H0.out.trans (HB.out.mono H0.out.size)) (fun w4 hb4 => ask1_is HOK.out (H0.out.trans ((HB.out.trans (hb4.mono HB.out.size)).mono H0.out.size)) (hp0 w4 hb4) (hp1 w4 hb4) (hrc w4 hb4) HAS.out HS.out))
  clear hb13 hr4 hp0 hp1 hrc hb3 p0 p1 q83 HBT HLV HR1 HR2 HR3 HR4 HQ1 HA0
  go_wp2_with (go_at_call 14; refine HC.out.mono ?_; rintro e5 w5 ⟨X, rfl, hX, hone, hu, ho⟩; have hr := ans_row H0.out HR.out (by omega) hu; have hst := ans_st hr hX hone; have HLD := Lib.hid (ans_ldV hr hX); have HP := Lib.hid (HOK.out.put (C := X) H0.out HB.out hu ho (by omega) HR.out.lt); have HX := Lib.hid (And.intro hX hone); clear hr hX hone hu ho; generalize w5.setRow (w.heap.size + 1 + 1 + 1) X = w6 at *)
  exact bodyPost_ret (v := .agg X) (by rw [results_cell1 rfl]; simp [asAddr, Result.andThen, HLD.out]) rfl ⟨X, rfl, HX.out.1, HX.out.2, HP.out.1, HP.out.2⟩
end
end Go.Proofs.YthdpeecahpedeaaGreatDoor
