/- Sets of signals by whole rows: the walks of Hold, Next, Take, sigs. Sets of signals by whole rows: the walks of Take and sigs; sets compared. The walks of the kernel's living, between, fail. The walks of Ask's closure, do, Ask. The walk of the kernel's Ask. What keeps the tables of processes and of descriptors; answers that are built; the kernel's fail. The kernel with its processes: what holds of it, and what keeps it. No walk here. -/
import Derived.Test.YtlfemcbfclallaaGreatDoorSigRow
import Derived.Laws.StructEq
import Derived.ChangeKeysEq
import Derived.Test.YtlfemcbfclallaaGreatDoorSigPlain
import Derived.Test.YtlfemcbfclallaaGreatDoorForest
import Derived.Test.YtlfemcbfclallaaGreatDoorSpA
namespace Go.Proofs.YtlfemcbfclallaaGreatDoor.SigLaw
set_option linter.unusedSimpArgs false
open Go.RowKit
set_option linter.unusedVariables false
attribute [local go_sem ↓] load58_eq store58_eq zero58 cells58
def HoldPost (g : G) (m : Nat) (w : World) (e : Ending) (w' : World) : Prop :=
  ∃ en g', e = .returned (.tuple #[.agg (cellsA g'), .int .i64 en]) ∧ Below w.heap.size w w' ∧ ((en = 0 ∧ good g ∧ g' = ⟨g.p, (less m 512 : Nat), g.h⟩) ∨ (en ≠ 0 ∧ ¬ good g))
set_option maxRecDepth 100000 in
set_option maxHeartbeats 1000000 in
theorem hold_is (g : G) (m : Nat) (w : World) (hB : BB g) (hm : m < 65536) (hm0 : m.testBit 0 = false) : Calls Tryz.prog 98 #[.agg (cellsA g), .int .i64 m] w (HoldPost g m w) := by
  have HC := Lib.hid (check_b g ((w.alloc (.cells (cellsA g) 59)).alloc (.cells (cellsA zeroG) 59)) hB)
  have HT := Lib.hid (two_new w g)
  have hl := (two_new w g).R.load
  have hf : (bits .andNot .i64 (m : Int) 65534 != 0) = false := by have := nat_fit m hm hm0; unfold fitB at this; simpa using this
  have h5 : bits .andNot .i64 (m : Int) 512 = ((less m 512 : Nat) : Int) := i64_andNot m 512 (by omega) (by decide)
  clear hB hm hm0
  go_enter Tryz.func98, Tryz.ntmps98
  go_wp2_with fail
  refine HC.out.mono ?_
  rintro e w1 ⟨en, rfl, hb1, hcase⟩
  have HT1 := Lib.hid (HT.out.keep hb1)
  clear hb1 hl HC HT
  rcases hcase with ⟨rfl, hg⟩ | ⟨hen, hg⟩
  · have HG := Lib.hid hg
    obtain ⟨g2, hg2⟩ : ∃ g2 : G, g2 = ⟨g.p, ((less m 512 : Nat) : Int), g.h⟩ := ⟨_, rfl⟩
    have HT2 := Lib.hid (HT1.out.setM ((less m 512 : Nat) : Int))
    rw [← hg2] at HT2
    have HG2 := Lib.hid hg2
    have c1 := HT1.out.R.c1
    have f1 := HT1.out.R.fz 1
    have hl := HT2.out.R.load
    have hz := HT2.out.Z.store g2
    clear hg hg2
    go_wp2
    exact bodyPost_ret (v := .tuple #[.agg (cellsA g2), .int .i64 0]) (by rw [results_cell_tmp rfl]; simp [asAddr, Result.andThen, (HT2.out.store g2).Z.loadVar]) rfl ⟨0, g2, rfl, (HT2.out.store g2).B, .inl ⟨rfl, HG.out, HG2.out⟩⟩
  · have hen' := ne_zero hen
    have hz := fun g' => HT1.out.Z.store g'
    have HE := Lib.hid hen
    have HG := Lib.hid hg
    clear hen hg
    go_wp2
    exact bodyPost_ret (v := .tuple #[.agg (cellsA zeroG), .int .i64 en]) (by rw [results_cell_tmp rfl]; simp [asAddr, Result.andThen, (HT1.out.store zeroG).Z.loadVar]) rfl ⟨en, zeroG, rfl, (HT1.out.store zeroG).B, .inr ⟨HE.out, HG.out⟩⟩
def NextPost (g : G) (w : World) (e : Ending) (w' : World) : Prop :=
  ∃ n en : Int, e = .returned (.tuple #[.int .i64 n, .int .i64 en]) ∧ Below w.heap.size w w' ∧
    ((en ≠ 0 ∧ ¬ good g) ∨ ∃ P M, Right g P M ∧ ((en = 0 ∧ ∃ k : Nat, n = k ∧ 1 ≤ k ∧ k ≤ 15 ∧ P.testBit k = true ∧ (k = 9 ∨ M.testBit k = false) ∧ (P.testBit 9 = true → k = 9)) ∨ (en = 4 ∧ P.testBit 9 = false ∧ ∀ k, 1 ≤ k → k ≤ 15 → P.testBit k = true → M.testBit k = true)))
set_option maxRecDepth 100000 in
set_option maxHeartbeats 1000000 in
theorem next_is (g : G) (w : World) (hB : BB g) : Calls Tryz.prog 69 #[.agg (cellsA g)] w (NextPost g w) := by
  have HC := Lib.hid (check_b g (w.alloc (.cells (cellsA g) 59)) hB)
  have HN := Lib.hid (row_new w g)
  have HB1 := Lib.hid (Go.Joins.below_alloc1 w (.cells (cellsA g) 59))
  have hl := (row_new w g).load
  clear hB
  go_enter Tryz.func69, Tryz.ntmps69
  go_wp2_with fail
  refine HC.out.mono ?_
  rintro e w1 ⟨en, rfl, hb1, hcase⟩
  have HN1 := Lib.hid (HN.out.keep hb1)
  have HW := Lib.hid (HB1.out.trans (hb1.mono HB1.out.size))
  clear hb1 hl HC HN HB1
  rcases hcase with ⟨rfl, P, M, hr⟩ | ⟨hen, hg⟩
  · have HR := Lib.hid hr
    have c0 := HN1.out.c0
    have c1 := HN1.out.c1
    rw [hr.p] at c0
    rw [hr.m] at c1
    have h9 : (bits .and .i64 ((P : Int) / 512) 1 == 1) = P.testBit 9 := bit_eq P 9 hr.pl
    cases h : P.testBit 9
    · have H9 := Lib.hid h
      rw [h] at h9
      have hx : bits .andNot .i64 (P : Int) (M : Int) = ((less P M : Nat) : Int) := i64_andNot P M (by have := hr.pl; omega) (by have := hr.ml; omega)
      have HX := Lib.hid (less_lt P M hr.pl)
      have hbits : Hid (∀ k, (less P M).testBit k = (P.testBit k && !M.testBit k)) := Lib.hid (fun k => less_bit P M k)
      generalize less P M = x at *
      clear hr h
      go_wp2_with fail
      go_loop [6] (fun i => ∃ k : Nat, 1 ≤ k ∧ k ≤ 16 ∧ i = .int .i64 k ∧ Hid (∀ j, 1 ≤ j → j < k → x.testBit j = false)) (fun i => 16 - (intOf i).toNat)
      case atStart => exact ⟨1, by omega, by omega, rfl, fun j h1 h2 => absurd h2 (by omega)⟩
      case round =>
        obtain ⟨k, k1, k2, rfl, HK⟩ := hrel
        by_cases hlt : k ≤ 15
        · have hb := bit_eq x k HX.out
          have hki : (k : Int) ≤ 15 := by omega
          have hk64 : (k : Int) < 64 := by omega
          have hk0 : ¬ ((k : Int) < 0) := by omega
          have HKK := Lib.hid (And.intro k1 hlt)
          clear hlt
          cases hq : x.testBit k
          · have HQ := Lib.hid hq
            rw [hq] at hb
            clear hq
            go_wp2
            go_round
            case rel =>
              refine ⟨k + 1, by omega, by omega, rfl, fun j h1 h2 => ?_⟩
              rcases Nat.lt_succ_iff_lt_or_eq.1 h2 with q | rfl
              · exact HK.out j h1 q
              · exact HQ.out
            case measure => simp [intOf]; omega
          · have HQ := Lib.hid hq
            rw [hq] at hb
            clear hq
            go_wp2
            go_ret2
            have hbt := hbits.out k
            rw [HQ.out] at hbt
            have hP : P.testBit k = true := by revert hbt; cases P.testBit k <;> simp
            have hM : M.testBit k = false := by revert hbt; cases M.testBit k <;> simp
            exact ⟨k, 0, rfl, HW.out, .inr ⟨P, M, HR.out, .inl ⟨rfl, k, rfl, HKK.out.1, HKK.out.2, hP, .inr hM, fun h => by rw [H9.out] at h; cases h⟩⟩⟩
        · obtain rfl : k = 16 := by omega
          go_wp2
          go_ret2
          refine ⟨0, 4, rfl, HW.out, .inr ⟨P, M, HR.out, .inr ⟨rfl, H9.out, fun k h1 h2 h3 => ?_⟩⟩⟩
          have hbt := hbits.out k
          rw [HK.out k h1 (by omega), h3] at hbt
          revert hbt; cases M.testBit k <;> simp
    · have H9 := Lib.hid h
      rw [h] at h9
      clear hr h
      go_wp2
      go_ret2
      exact ⟨9, 0, rfl, HW.out, .inr ⟨P, M, HR.out, .inl ⟨rfl, 9, rfl, by decide, by decide, H9.out, .inl rfl, fun _ => rfl⟩⟩⟩
  · have hen' := ne_zero hen
    have HE := Lib.hid hen
    have HG := Lib.hid hg
    clear hen hg
    go_wp2
    go_ret2
    exact ⟨0, en, rfl, HW.out, .inl ⟨HE.out, HG.out⟩⟩
end Go.Proofs.YtlfemcbfclallaaGreatDoor.SigLaw
namespace Go.Proofs.YtlfemcbfclallaaGreatDoor.SigLaw
set_option linter.unusedSimpArgs false
open Go.RowKit
set_option linter.unusedVariables false
attribute [local go_sem ↓] load58_eq store58_eq zero58 cells58
theorem results_cell4 {fn : Func} {p u x y : Tmp} {ty : TypeId} (h : fn.results = #[.cell p ty, .tmp u, .tmp x, .tmp y]) (tmps : Array Value) (P : Program) (w : World) :
    (results fn tmps).run P w = ((asAddr (tmps.getD p undef)).run P w).andThen fun a w1 => ((loadVar ty a).run P w1).andThen fun v w2 => .ok (.tuple #[v, tmps.getD u undef, tmps.getD x undef, tmps.getD y undef]) w2 := by
  unfold results
  rw [h]
  simp
def TakePost (g : G) (P M : Nat) (w : World) (e : Ending) (w' : World) : Prop :=
  Below w.heap.size w w' ∧ ((∃ v n hw, e = .returned (.tuple #[.agg (cellsA v), .int .i64 n, .int .i64 hw, .int .i64 4])) ∨ ∃ k : Nat, 1 ≤ k ∧ k ≤ 15 ∧ P.testBit k = true ∧ e = .returned (.tuple #[.agg (cellsA ⟨(less P (1 <<< k) : Nat), g.m, g.h⟩), .int .i64 k, .int .i64 (g.h k), .int .i64 0]))
set_option maxRecDepth 100000 in
set_option maxHeartbeats 1000000 in
theorem take_is (g : G) (P M : Nat) (w : World) (hB : BB g) (hr : Right g P M) : Calls Tryz.prog 35 #[.agg (cellsA g)] w (TakePost g P M w) := by
  have HC := Lib.hid (next_is g ((w.alloc (.cells (cellsA g) 59)).alloc (.cells (cellsA zeroG) 59)) hB)
  have HT := Lib.hid (two_new w g)
  have hl := (two_new w g).R.load
  have HR := Lib.hid hr
  clear hB hr
  go_enter Tryz.func35, Tryz.ntmps35
  go_wp2_with fail
  refine HC.out.mono ?_
  rintro e w1 ⟨n, en, rfl, hb1, hcase⟩
  have HT1 := Lib.hid (HT.out.keep hb1)
  clear hb1 hl HC HT
  have hcase2 : en = 4 ∨ (en = 0 ∧ ∃ k : Nat, n = k ∧ 1 ≤ k ∧ k ≤ 15 ∧ P.testBit k = true) := by
    rcases hcase with ⟨_, h⟩ | ⟨P', M', hr', ⟨h0, k, hk, k1, k2, hP, -, -⟩ | ⟨h4, -⟩⟩
    · exact absurd ⟨P, M, HR.out⟩ h
    · have : P' = P := by have a := hr'.p; have b := HR.out.p; omega
      subst this
      exact .inr ⟨h0, k, hk, k1, k2, hP⟩
    · exact .inl h4
  clear hcase
  rcases hcase2 with rfl | ⟨rfl, k, rfl, k1, k2, hP⟩
  · have hz := fun g' => HT1.out.Z.store g'
    go_wp2
    exact bodyPost_ret (v := .tuple #[.agg (cellsA zeroG), .int .i64 0, .int .i64 0, .int .i64 4]) (by rw [results_cell4 rfl]; simp [asAddr, Result.andThen, (HT1.out.store zeroG).Z.loadVar]) rfl ⟨(HT1.out.store zeroG).B, .inl ⟨zeroG, 0, 0, rfl⟩⟩
  · have c0 := HT1.out.R.c0
    have f0 := HT1.out.R.fz 0
    have hgp := HR.out.p
    have e1 : bits .andNot .i64 g.p (wrap64 (2 ^ k)) = ((less P (1 <<< k) : Nat) : Int) := by
      rw [hgp, wrap_pow k2, show ((2 : Int) ^ k) = ((1 <<< k : Nat) : Int) from by rw [Nat.one_shiftLeft]; norm_cast]
      exact i64_andNot P (1 <<< k) (by have := HR.out.pl; omega) (by have := one_shift k (by omega); omega)
    obtain ⟨g2, hg2⟩ : ∃ g2 : G, g2 = ⟨((less P (1 <<< k) : Nat) : Int), g.m, g.h⟩ := ⟨_, rfl⟩
    have HT2 := Lib.hid (HT1.out.setP ((less P (1 <<< k) : Nat) : Int)).drew
    rw [← hg2] at HT2
    have HG2 := Lib.hid hg2
    have hgh : g2.h k = g.h k := by rw [hg2]
    have HGH := Lib.hid hgh
    have HP := Lib.hid hP
    have HK := Lib.hid (And.intro k1 k2)
    have hk16 : (k : Int) < 16 := by omega
    have hk0 : 0 ≤ (k : Int) := by omega
    clear hg2 hgh hP k1 k2 hgp
    go_wp2_with fail
    go_region
    clear c0 f0
    revert HT2
    generalize hw2 : World.drew _ = w2
    intro HT2
    clear hw2
    have hl := HT2.out.drew.R.load
    have hz := HT2.out.drew.Z.store g2
    have nk := HT2.out.drew.R.ch (k := k) (by have := HK.out; omega)
    rw [HGH.out] at nk
    have nk2 := (HT2.out.drew.store g2).R.ch (k := k) (by have := HK.out; omega)
    rw [HGH.out] at nk2
    go_wp2_with fail
    go_region
    go_wp2
    refine bodyPost_ret (v := .tuple #[.agg (cellsA g2), .int .i64 k, .int .i64 (g.h k), .int .i64 0]) (by rw [results_cell4 rfl]; simp [asAddr, Result.andThen, (HT2.out.drew.store g2).Z.loadVar]) rfl ⟨(HT2.out.drew.store g2).B, .inr ⟨k, HK.out.1, HK.out.2, HP.out, ?_⟩⟩
    rw [← HG2.out]
end Go.Proofs.YtlfemcbfclallaaGreatDoor.SigLaw
namespace Go.Proofs.YtlfemcbfclallaaGreatDoor
open Go.RowKit
set_option linter.unusedVariables false
set_option linter.unusedSimpArgs false
structure KQ (w : World) (K Pr : Nat) (c : Nat → Value) : Prop where
  kr : KR w K c
  c7 : c 7 = .pointer (some ⟨Pr, 0, none⟩)
  sl : c 83 = .bool false
  sg : ∀ j, j < 18 → c (65 + j) = kz (65 + j)
  pr : ProcLaw.TabAt w Pr ProcLaw.start
theorem KQ.keep {w w' : World} {K Pr : Nat} {c : Nat → Value} (h : KQ w K Pr c) (hb : Below w.heap.size w w') : KQ w' K Pr c := ⟨h.kr.keep hb, h.c7, h.sl, h.sg, h.pr.keep hb⟩
theorem ld_sig (v : Value) : Instr.loadAt 59 v = ldR 59 v := rfl
theorem st_sig (p v : Value) : Instr.storeAt 59 p v = stR 59 p v := rfl
theorem kz_sig : (List.range 18).map (fun j => kz (65 + j)) = List.replicate 18 (.int .i64 0) := by kernel_rfl
section
variable {w : World} {K Pr : Nat} {c : Nat → Value}
theorem sig_right : SigLaw.Right SigLaw.zeroG 0 0 := by constructor <;> first | rfl | decide | (intro i hi; simp [SigLaw.zeroG])
set_option maxRecDepth 100000 in
set_option maxHeartbeats 400000 in
theorem living_is (h : KQ w K Pr c) : Calls Tryz.prog 13 #[.pointer (some ⟨K, 0, none⟩), .int .i64 1] w fun e w' => e = .returned (.int .i64 0) ∧ w = w' := by
  have q7 : w.cell? ⟨K, 7, none⟩ = some (.pointer (some ⟨Pr, 0, none⟩)) := by rw [h.kr.cell (by decide), h.c7]
  have HS := Lib.hid (ProcLaw.state_is (k := 1) h.pr (by decide) (by decide))
  rw [show (ProcLaw.start 1).st = 1 from rfl] at HS
  clear h
  go_enter Tryz.func13, Tryz.ntmps13
  go_wp2_with (go_at_call 34; refine HS.out.mono ?_; rintro e1 w1 ⟨rfl, rfl⟩)
  go_ret
  exact ⟨rfl, rfl⟩
end
end Go.Proofs.YtlfemcbfclallaaGreatDoor
namespace Go.Proofs.YtlfemcbfclallaaGreatDoor
open Go.RowKit
set_option linter.unusedVariables false
set_option linter.unusedSimpArgs false
section
variable {w0 w : World} {Out : World → Array Value → World → Prop} {K Pr b0 b1 b2 : Nat} {A : Array Value} {c : Nat → Value}
theorem ld_callR {w : World} {b : Nat} (hr : Row w b 37 A) (hA : A.size = 7) : (ldR 37 (.pointer (some ⟨b, 0, none⟩))).run Tryz.prog w = .ok (.agg A) w := hr.ld0 Tryz.underlying37 rfl (by rw [hA]; kernel_rfl)
end
end Go.Proofs.YtlfemcbfclallaaGreatDoor

namespace Go.Proofs.YtlfemcbfclallaaGreatDoor
open Go.RowKit
set_option linter.unusedVariables false
set_option linter.unusedSimpArgs false
theorem _root_.Go.Proofs.YtlfemcbfclallaaGreatDoor.ProcLaw.TabAt.upd {S : Nat → Prop} {w w' : World} {b : Nat} {t : ProcLaw.T} (h : ProcLaw.TabAt w b t) (hu : Upd S w w') (hn : ¬ S b) : ProcLaw.TabAt w' b t :=
  ⟨Nat.lt_of_lt_of_le h.lt hu.size, fun i => (hu.frozen h.lt hn).trans (h.fz i), fun k hk => (hu.cell h.lt hn).trans (h.st k hk), fun k hk => (hu.cell h.lt hn).trans (h.par k hk), fun k hk => (hu.cell h.lt hn).trans (h.gr k hk), fun k hk => (hu.cell h.lt hn).trans (h.code k hk)⟩
theorem _root_.Go.Proofs.YtlfemcbfclallaaGreatDoor.OpenLaw.OTab.upd {S : Nat → Prop} {w w' : World} {b : Nat} {fs : Nat → OpenLaw.F} {fd : Nat → Nat} (h : OpenLaw.OTab w b fs fd) (hu : Upd S w w') (hn : ¬ S b) : OpenLaw.OTab w' b fs fd :=
  ⟨Nat.lt_of_lt_of_le h.lt hu.size, fun i => (hu.frozen h.lt hn).trans (h.fz i), h.le, fun k hk => (hu.cell h.lt hn).trans (h.c0 k hk), fun k hk => (hu.cell h.lt hn).trans (h.c1 k hk), fun k hk => (hu.cell h.lt hn).trans (h.c2 k hk), fun k hk => (hu.cell h.lt hn).trans (h.c3 k hk), fun k hk => (hu.cell h.lt hn).trans (h.c4 k hk), fun k hk => (hu.cell h.lt hn).trans (h.c5 k hk), fun p j hp hj => (hu.cell h.lt hn).trans (h.d p j hp hj)⟩
theorem kb_upd {b : Nat} {w w' : World} (h : OpenLaw.KB b w w') {S : Nat → Prop} (hS : S b) : Upd S w w' := Upd.grown h hS
theorem bd_ans (ps : Array (Nat × Value)) : Instr.build 34 ps = bdR 34 ps := rfl
theorem bd_thing (ps : Array (Nat × Value)) : Instr.build 160 ps = bdR 160 ps := rfl
theorem bd_fail (w : World) (e : Int) : (bdR 34 #[(0, .int .i64 e)]).run Tryz.prog w = .ok (.agg (ansV e 0 0 (.slice none 0 0))) w := by kernel_rfl
attribute [local go_sem ↓] bd_ans bd_thing ld_ans st_ans
set_option maxRecDepth 100000 in
set_option maxHeartbeats 400000 in
theorem fail_is (w : World) (e : Int) : Calls Tryz.prog 14 #[.int .i64 e] w fun r w' => r = .returned (.agg (ansV e 0 0 (.slice none 0 0))) ∧ Below w.heap.size w w' := by
  have hbd := fun w => bd_fail w e
  have hz : ansZ = #[.int .i64 0, .int .i64 0, .int .i64 0, .slice none 0 0, .slice none 0 0, .int .i64 0, .int .i64 0, .int .i64 0, .int .i64 0, .int .i64 0, .int .i64 0] := rfl
  have hr := row_new w 34 ansZ
  have hst := ans_st hr (X := ansV e 0 0 (.slice none 0 0)) rfl (ansV_one _ _ _ rfl)
  have HLD := Lib.hid (ans_ldV hr (X := ansV e 0 0 (.slice none 0 0)) rfl)
  have HB : Hid (Below w.heap.size w ((w.alloc (.cells ansZ 34)).setRow w.heap.size (ansV e 0 0 (.slice none 0 0)))) := Lib.hid ((Upd.alloc (S := fun k => k = w.heap.size) w (.cells ansZ 34)).trans (Upd.setRow _ _ rfl) |>.toBelow (Nat.le_refl _) (fun k hk e => by omega))
  rw [hz] at hst HLD HB
  clear hr hz
  generalize ansV e 0 0 (.slice none 0 0) = X at *
  go_enter Tryz.func14, Tryz.ntmps14
  go_wp2
  exact bodyPost_ret (v := .agg X) (by rw [results_cell1 rfl]; simp [asAddr, Result.andThen, HLD.out]) rfl ⟨rfl, HB.out⟩
end Go.Proofs.YtlfemcbfclallaaGreatDoor
namespace Go.Proofs.YtlfemcbfclallaaGreatDoor
open Go.RowKit
set_option linter.unusedVariables false
set_option linter.unusedSimpArgs false
structure KC where
  K : Nat
  Wh : Nat
  Fi : Nat
  Pr : Nat
  R : Nat
  M : Nat
  so : Nat
structure KSt where
  tag : Nat → Nat
  c : Nat → Value
  t : ProcLaw.T
  fs : Nat → OpenLaw.F
  fd : Nat → Nat
  ad : Option Addr
  cap : Nat
  l : List Tk
  m : MS
  cw : Nat → Option Nat
structure KT (w : World) (k : KC) (s : KSt) : Prop where
  kr : KR w k.K s.c
  c1 : s.c 1 = .pointer (some ⟨k.M, 0, none⟩)
  c4 : s.c 4 = .pointer (some ⟨k.R, 0, none⟩)
  c5 : s.c 5 = .pointer (some ⟨k.Wh, 0, none⟩)
  c6 : s.c 6 = .pointer (some ⟨k.Fi, 0, none⟩)
  c7 : s.c 7 = .pointer (some ⟨k.Pr, 0, none⟩)
  wh : Row w k.Wh 158 #[.int .u32 0, .slice none 0 0]
  fi : OpenLaw.OTab w k.Fi s.fs s.fd
  pr : ProcLaw.TabAt w k.Pr s.t
  ru : RunG w k.R s.ad s.cap 1 0 (onePin 1) s.l
  me : MemG w k.M k.so 64 64 s.m
  cw : ∀ p b, s.cw p = some b → (∃ cp, s.c (8 + p * 38 + 17) = .slice (some ⟨b, 0, none⟩) 1 cp) ∧ w.cell? ⟨b, 0, none⟩ = some (.int .i64 1) ∧ b < w.heap.size ∧ s.tag b = 7
  tK : s.tag k.K = 1
  tWh : s.tag k.Wh = 2
  tFi : s.tag k.Fi = 3
  tPr : s.tag k.Pr = 4
  tR : ∀ j, rS k.R s.ad j → s.tag j = 5
  tM : ∀ j, mB k.M k.so s.m j → s.tag j = 6
  tz : ∀ j, w.heap.size ≤ j → s.tag j = 0
open Classical in
noncomputable def tg (tag : Nat → Nat) (B : Nat) (S : Nat → Prop) (i : Nat) : Nat → Nat := fun j => if j < B then tag j else if S j then i else 0
theorem tg_old {tag : Nat → Nat} {B : Nat} {S : Nat → Prop} {i j : Nat} (h : j < B) : tg tag B S i j = tag j := if_pos h
theorem tg_new {tag : Nat → Nat} {B : Nat} {S : Nat → Prop} {i j : Nat} (h : B ≤ j) (hs : S j) : tg tag B S i j = i := by
  unfold tg
  rw [if_neg (by omega), if_pos hs]
theorem tg_no {tag : Nat → Nat} {B : Nat} {S : Nat → Prop} {i j : Nat} (h : B ≤ j) (hs : ¬ S j) : tg tag B S i j = 0 := by
  unfold tg
  rw [if_neg (by omega), if_neg hs]
def FarT (tag0 : Nat → Nat) (B : Nat) (tag : Nat → Nat) : Prop := ∀ j, tag j ≠ 0 → tag0 j ≠ 0 ∨ B ≤ j
section
variable {w w' : World} {k : KC} {s : KSt}
theorem KT.lt (h : KT w k s) {j : Nat} (hj : s.tag j ≠ 0) : j < w.heap.size := by
  rcases Nat.lt_or_ge j w.heap.size with q | q
  · exact q
  · exact absurd (h.tz j q) hj
theorem KT.far (h : KT w k s) (B : Nat) : FarT s.tag B s.tag := fun j hj => .inl hj
theorem KT.upd {S : Nat → Prop} (h : KT w k s) (hu : Upd S w w') (hn : ∀ j, s.tag j ≠ 0 → ¬ S j) : KT w' k s := by
  have n : ∀ {j i}, s.tag j = i → i ≠ 0 → ¬ S j := fun e hi => hn _ (by rw [e]; exact hi)
  exact ⟨h.kr.upd hu (n h.tK (by decide)), h.c1, h.c4, h.c5, h.c6, h.c7, h.wh.upd hu (n h.tWh (by decide)), h.fi.upd hu (n h.tFi (by decide)), h.pr.upd hu (n h.tPr (by decide)), h.ru.upd hu (n (h.tR _ (.inl rfl)) (by decide)) (fun a e => n (h.tR _ (.inr ⟨a, e, rfl⟩)) (by decide)), h.me.upd hu (fun j hj => n (h.tM j hj) (by decide)), fun p b hb => by
    obtain ⟨h1, h2, h3, h4⟩ := h.cw p b hb
    exact ⟨h1, (hu.cell h3 (n h4 (by decide))).trans h2, Nat.lt_of_lt_of_le h3 hu.size, h4⟩, h.tK, h.tWh, h.tFi, h.tPr, h.tR, h.tM, fun j hj => h.tz j (Nat.le_trans hu.size hj)⟩
theorem KT.keep (h : KT w k s) (hb : Below w.heap.size w w') : KT w' k s := h.upd (S := fun _ => False) (Upd.below hb) (fun _ _ e => e)
theorem KT.mem {m' : MS} (h : KT w k s) (hm : MemG w' k.M k.so 64 64 m') (hu : Upd (mB k.M k.so s.m) w w') (hB : ∀ j, mB k.M k.so m' j → mB k.M k.so s.m j ∨ w.heap.size ≤ j) : KT w' k { s with m := m', tag := tg s.tag w.heap.size (mB k.M k.so m') 6 } := by
  have n : ∀ {j i}, s.tag j = i → i ≠ 6 → ¬ mB k.M k.so s.m j := fun e hi q => hi (e.symm.trans (h.tM _ q))
  have o : ∀ {j i}, s.tag j = i → i ≠ 0 → tg s.tag w.heap.size (mB k.M k.so m') 6 j = i := fun e hi => (tg_old (h.lt (by rw [e]; exact hi))).trans e
  exact ⟨h.kr.upd hu (n h.tK (by decide)), h.c1, h.c4, h.c5, h.c6, h.c7, h.wh.upd hu (n h.tWh (by decide)), h.fi.upd hu (n h.tFi (by decide)), h.pr.upd hu (n h.tPr (by decide)), h.ru.upd hu (n (h.tR _ (.inl rfl)) (by decide)) (fun a e => n (h.tR _ (.inr ⟨a, e, rfl⟩)) (by decide)), hm, fun p b hb => by
    obtain ⟨h1, h2, h3, h4⟩ := h.cw p b hb
    exact ⟨h1, (hu.cell h3 (n h4 (by decide))).trans h2, Nat.lt_of_lt_of_le h3 hu.size, o h4 (by decide)⟩, o h.tK (by decide), o h.tWh (by decide), o h.tFi (by decide), o h.tPr (by decide), fun j hj => o (h.tR j hj) (by decide), fun j hj => by
    rcases hB j hj with q | q
    · exact o (h.tM j q) (by decide)
    · exact tg_new q hj, fun j hj => tg_no (Nat.le_trans hu.size hj) (fun q => by have := hm.lt q; omega)⟩
theorem KT.run {ad' : Option Addr} {cap' : Nat} {l' : List Tk} (h : KT w k s) (hr : RunG w' k.R ad' cap' 1 0 (onePin 1) l') (hu : Upd (rS k.R s.ad) w w') (hB : ∀ j, rS k.R ad' j → rS k.R s.ad j ∨ w.heap.size ≤ j) : KT w' k { s with ad := ad', cap := cap', l := l', tag := tg s.tag w.heap.size (rS k.R ad') 5 } := by
  have n : ∀ {j i}, s.tag j = i → i ≠ 5 → ¬ rS k.R s.ad j := fun e hi q => hi (e.symm.trans (h.tR _ q))
  have o : ∀ {j i}, s.tag j = i → i ≠ 0 → tg s.tag w.heap.size (rS k.R ad') 5 j = i := fun e hi => (tg_old (h.lt (by rw [e]; exact hi))).trans e
  exact ⟨h.kr.upd hu (n h.tK (by decide)), h.c1, h.c4, h.c5, h.c6, h.c7, h.wh.upd hu (n h.tWh (by decide)), h.fi.upd hu (n h.tFi (by decide)), h.pr.upd hu (n h.tPr (by decide)), hr, h.me.upd hu (fun j hj => n (h.tM j hj) (by decide)), fun p b hb => by
    obtain ⟨h1, h2, h3, h4⟩ := h.cw p b hb
    exact ⟨h1, (hu.cell h3 (n h4 (by decide))).trans h2, Nat.lt_of_lt_of_le h3 hu.size, o h4 (by decide)⟩, o h.tK (by decide), o h.tWh (by decide), o h.tFi (by decide), o h.tPr (by decide), fun j hj => by
    rcases hB j hj with q | q
    · exact o (h.tR j q) (by decide)
    · exact tg_new q hj, fun j hj => o (h.tM j hj) (by decide), fun j hj => tg_no (Nat.le_trans hu.size hj) (fun q => by
      rcases q with q | ⟨a, e, q⟩
      · have := hr.lt; omega
      · have := (hr.ltT e).1; omega)⟩
theorem KT.procs {t' : ProcLaw.T} (h : KT w k s) (hp : ProcLaw.TabAt w' k.Pr t') (hu : Upd (fun j => j = k.Pr) w w') : KT w' k { s with t := t' } := by
  have n : ∀ {j i}, s.tag j = i → i ≠ 4 → ¬ j = k.Pr := fun e hi q => hi (e.symm.trans (q ▸ h.tPr))
  exact ⟨h.kr.upd hu (n h.tK (by decide)), h.c1, h.c4, h.c5, h.c6, h.c7, h.wh.upd hu (n h.tWh (by decide)), h.fi.upd hu (n h.tFi (by decide)), hp, h.ru.upd hu (n (h.tR _ (.inl rfl)) (by decide)) (fun a e => n (h.tR _ (.inr ⟨a, e, rfl⟩)) (by decide)), h.me.upd hu (fun j hj => n (h.tM j hj) (by decide)), fun p b hb => by
    obtain ⟨h1, h2, h3, h4⟩ := h.cw p b hb
    exact ⟨h1, (hu.cell h3 (n h4 (by decide))).trans h2, Nat.lt_of_lt_of_le h3 hu.size, h4⟩, h.tK, h.tWh, h.tFi, h.tPr, h.tR, h.tM, fun j hj => h.tz j (Nat.le_trans hu.size hj)⟩
theorem KT.files {fs' : Nat → OpenLaw.F} {fd' : Nat → Nat} (h : KT w k s) (hf : OpenLaw.OTab w' k.Fi fs' fd') (hu : Upd (fun j => j = k.Fi) w w') : KT w' k { s with fs := fs', fd := fd' } := by
  have n : ∀ {j i}, s.tag j = i → i ≠ 3 → ¬ j = k.Fi := fun e hi q => hi (e.symm.trans (q ▸ h.tFi))
  exact ⟨h.kr.upd hu (n h.tK (by decide)), h.c1, h.c4, h.c5, h.c6, h.c7, h.wh.upd hu (n h.tWh (by decide)), hf, h.pr.upd hu (n h.tPr (by decide)), h.ru.upd hu (n (h.tR _ (.inl rfl)) (by decide)) (fun a e => n (h.tR _ (.inr ⟨a, e, rfl⟩)) (by decide)), h.me.upd hu (fun j hj => n (h.tM j hj) (by decide)), fun p b hb => by
    obtain ⟨h1, h2, h3, h4⟩ := h.cw p b hb
    exact ⟨h1, (hu.cell h3 (n h4 (by decide))).trans h2, Nat.lt_of_lt_of_le h3 hu.size, h4⟩, h.tK, h.tWh, h.tFi, h.tPr, h.tR, h.tM, fun j hj => h.tz j (Nat.le_trans hu.size hj)⟩
theorem KT.cells {c' : Nat → Value} {cw' : Nat → Option Nat} {tag' : Nat → Nat} (h : KT w k s) (hk : KR w' k.K c') (hu : Upd (fun j => j = k.K) w w') (hc : ∀ j, j < 8 → c' j = s.c j) (ht : ∀ j, s.tag j ≠ 0 → tag' j = s.tag j) (ht2 : ∀ j, w'.heap.size ≤ j → tag' j = 0)
    (hw : ∀ p b, cw' p = some b → (∃ cp, c' (8 + p * 38 + 17) = .slice (some ⟨b, 0, none⟩) 1 cp) ∧ w'.cell? ⟨b, 0, none⟩ = some (.int .i64 1) ∧ b < w'.heap.size ∧ tag' b = 7) : KT w' k { s with c := c', cw := cw', tag := tag' } := by
  have n : ∀ {j i}, s.tag j = i → i ≠ 1 → ¬ j = k.K := fun e hi q => hi (e.symm.trans (q ▸ h.tK))
  have o : ∀ {j i}, s.tag j = i → i ≠ 0 → tag' j = i := fun {j i} e hi => (ht j (by rw [e]; exact hi)).trans e
  exact ⟨hk, (hc 1 (by decide)).trans h.c1, (hc 4 (by decide)).trans h.c4, (hc 5 (by decide)).trans h.c5, (hc 6 (by decide)).trans h.c6, (hc 7 (by decide)).trans h.c7, h.wh.upd hu (n h.tWh (by decide)), h.fi.upd hu (n h.tFi (by decide)), h.pr.upd hu (n h.tPr (by decide)), h.ru.upd hu (n (h.tR _ (.inl rfl)) (by decide)) (fun a e => n (h.tR _ (.inr ⟨a, e, rfl⟩)) (by decide)), h.me.upd hu (fun j hj => n (h.tM j hj) (by decide)), hw, o h.tK (by decide), o h.tWh (by decide), o h.tFi (by decide), o h.tPr (by decide), fun j hj => o (h.tR j hj) (by decide), fun j hj => o (h.tM j hj) (by decide), ht2⟩
end
end Go.Proofs.YtlfemcbfclallaaGreatDoor
