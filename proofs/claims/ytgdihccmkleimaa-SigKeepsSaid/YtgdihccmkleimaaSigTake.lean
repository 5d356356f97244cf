/- Sets of signals by whole rows: the walks of Take and sigs; sets compared. -/
import Derived.Test.YtgdihccmkleimaaSigNext
import Derived.Laws.StructEq
import Derived.ChangeKeysEq
namespace Go.Proofs.Ytgdihccmkleimaa.SigLaw
open Go.RowKit
set_option linter.unusedVariables false
theorem part_at (g : G) (i : Nat) (hi : i < 16) (w : World) : (part 3 #[.int .i64 (g.h 0), .int .i64 (g.h 1), .int .i64 (g.h 2), .int .i64 (g.h 3), .int .i64 (g.h 4), .int .i64 (g.h 5), .int .i64 (g.h 6), .int .i64 (g.h 7), .int .i64 (g.h 8), .int .i64 (g.h 9), .int .i64 (g.h 10), .int .i64 (g.h 11), .int .i64 (g.h 12), .int .i64 (g.h 13), .int .i64 (g.h 14), .int .i64 (g.h 15)] (i * 1)).run Try.prog w = .ok (.int .i64 (g.h i)) w := by
  have : i = 0 ∨ i = 1 ∨ i = 2 ∨ i = 3 ∨ i = 4 ∨ i = 5 ∨ i = 6 ∨ i = 7 ∨ i = 8 ∨ i = 9 ∨ i = 10 ∨ i = 11 ∨ i = 12 ∨ i = 13 ∨ i = 14 ∨ i = 15 := by omega
  rcases this with rfl | rfl | rfl | rfl | rfl | rfl | rfl | rfl | rfl | rfl | rfl | rfl | rfl | rfl | rfl | rfl <;> simp [part, go_sem]
theorem items_same (w : World) (h : Nat → Int) (A : Array Value) (hA : ∀ i, i < 16 → ∀ w, (part 3 A (i * 1)).run Try.prog w = .ok (.int .i64 (h i)) w) : ∀ is : List Nat, (∀ i ∈ is, i < 16) → (Op.eqItems 9998 3 1 A A is).run Try.prog w = .ok true w := by
  intro is
  induction is with
  | nil => intro _; simp [Op.eqItems]
  | cons i is ih =>
    intro hi
    have h1 := hA i (hi i (by simp)) w
    have h2 := ih (fun j hj => hi j (by simp [hj]))
    simp only [Op.eqItems, Sem.run_bind, h1, Result.andThen_ok]
    have h3 := run_equalIn_int w 9997 3 .i64 .i64 (h i) (h i) Try.underlying3
    simp only [show (9997 : Nat) + 1 = 9998 from rfl] at h3
    simp [h2, h3]
theorem eq56 (g : G) (w : World) : (Op.equalIn 9999 56 (arrG g) (arrG g)).run Try.prog w = .ok true w := by
  rw [show (9999 : Nat) = 9998 + 1 from rfl, run_equalIn_array w 9998 _ _ Try.underlying56 (i := Try.t3) (by kernel_rfl), show Try.prog.cellsOf 3 = 1 from by kernel_rfl]
  exact items_same w g.h _ (fun i hi w => part_at g i hi w) _ (fun i hi => by simpa using hi)
set_option maxRecDepth 100000 in
set_option maxHeartbeats 1000000 in
theorem eq58 (g : G) (w : World) : (Op.equalIn 10000 58 (.agg (cellsA g)) (.agg (cellsA g))).run Try.prog w = .ok true w := by
  have h := eq56 g w
  unfold cellsA
  simp [go_sem, h]
attribute [local go_sem ↓] load58_eq store58_eq zero58 cells58
theorem results_cell4 {fn : Func} {p u x y : Tmp} {ty : TypeId} (h : fn.results = #[.cell p ty, .tmp u, .tmp x, .tmp y]) (tmps : Array Value) (P : Program) (w : World) :
    (results fn tmps).run P w = ((asAddr (tmps.getD p undef)).run P w).andThen fun a w1 => ((loadVar ty a).run P w1).andThen fun v w2 => .ok (.tuple #[v, tmps.getD u undef, tmps.getD x undef, tmps.getD y undef]) w2 := by
  unfold results
  rw [h]
  simp
def TakePost (g : G) (P M : Nat) (w : World) (e : Ending) (w' : World) : Prop :=
  Below w.heap.size w w' ∧ ((∃ v n hw, e = .returned (.tuple #[.agg (cellsA v), .int .i64 n, .int .i64 hw, .int .i64 4])) ∨ ∃ k : Nat, 1 ≤ k ∧ k ≤ 15 ∧ P.testBit k = true ∧ e = .returned (.tuple #[.agg (cellsA ⟨(less P (1 <<< k) : Nat), g.m, g.h⟩), .int .i64 k, .int .i64 (g.h k), .int .i64 0]))
set_option maxRecDepth 100000 in
set_option maxHeartbeats 1000000 in
theorem take_is (g : G) (P M : Nat) (w : World) (hB : BB g) (hr : Right g P M) : Calls Try.prog 32 #[.agg (cellsA g)] w (TakePost g P M w) := by
  have HC := Lib.hid (next_is g ((w.alloc (.cells (cellsA g) 58)).alloc (.cells (cellsA zeroG) 58)) hB)
  have HT := Lib.hid (two_new w g)
  have hl := (two_new w g).R.load
  have HR := Lib.hid hr
  clear hB hr
  go_enter Try.func32, Try.ntmps32
  go_wp2_with fail
  refine HC.out.mono ?_
  rintro e w1 ⟨n, en, rfl, hb1, hcase⟩
  have HT1 := Lib.hid (HT.out.keep hb1)
  clear hb1 hl HC HT
  have hcase2 : en = 4 ∨ (en = 0 ∧ ∃ k : Nat, n = k ∧ 1 ≤ k ∧ k ≤ 15 ∧ P.testBit k = true) := by
    rcases hcase with ⟨_, h⟩ | ⟨P', M', hr', ⟨h0, k, hk, k1, k2, hP, -, -⟩ | ⟨h4, -⟩⟩
    · exact absurd ⟨P, M, HR.out⟩ h
    · have : P' = P := by have a := hr'.p; have b := HR.out.p; omega
      subst this
      exact .inr ⟨h0, k, hk, k1, k2, hP⟩
    · exact .inl h4
  clear hcase
  rcases hcase2 with rfl | ⟨rfl, k, rfl, k1, k2, hP⟩
  · have hz := fun g' => HT1.out.Z.store g'
    go_wp2
    exact bodyPost_ret (v := .tuple #[.agg (cellsA zeroG), .int .i64 0, .int .i64 0, .int .i64 4]) (by rw [results_cell4 rfl]; simp [asAddr, Result.andThen, (HT1.out.store zeroG).Z.loadVar]) rfl ⟨(HT1.out.store zeroG).B, .inl ⟨zeroG, 0, 0, rfl⟩⟩
  · have c0 := HT1.out.R.c0
    have f0 := HT1.out.R.fz 0
    have hgp := HR.out.p
    have e1 : bits .andNot .i64 g.p (wrap64 (2 ^ k)) = ((less P (1 <<< k) : Nat) : Int) := by
      rw [hgp, wrap_pow k2, show ((2 : Int) ^ k) = ((1 <<< k : Nat) : Int) from by rw [Nat.one_shiftLeft]; norm_cast]
      exact i64_andNot P (1 <<< k) (by have := HR.out.pl; omega) (by have := one_shift k (by omega); omega)
    obtain ⟨g2, hg2⟩ : ∃ g2 : G, g2 = ⟨((less P (1 <<< k) : Nat) : Int), g.m, g.h⟩ := ⟨_, rfl⟩
    have HT2 := Lib.hid (HT1.out.setP ((less P (1 <<< k) : Nat) : Int)).drew
    rw [← hg2] at HT2
    have HG2 := Lib.hid hg2
    have hgh : g2.h k = g.h k := by rw [hg2]
    have HGH := Lib.hid hgh
    have HP := Lib.hid hP
    have HK := Lib.hid (And.intro k1 k2)
    have hk16 : (k : Int) < 16 := by omega
    have hk0 : 0 ≤ (k : Int) := by omega
    clear hg2 hgh hP k1 k2 hgp
    go_wp2_with fail
    go_region
    clear c0 f0
    revert HT2
    generalize hw2 : World.drew _ = w2
    intro HT2
    clear hw2
    have hl := HT2.out.drew.R.load
    have hz := HT2.out.drew.Z.store g2
    have nk := HT2.out.drew.R.ch (k := k) (by have := HK.out; omega)
    rw [HGH.out] at nk
    have nk2 := (HT2.out.drew.store g2).R.ch (k := k) (by have := HK.out; omega)
    rw [HGH.out] at nk2
    go_wp2_with fail
    go_region
    go_wp2
    refine bodyPost_ret (v := .tuple #[.agg (cellsA g2), .int .i64 k, .int .i64 (g.h k), .int .i64 0]) (by rw [results_cell4 rfl]; simp [asAddr, Result.andThen, (HT2.out.drew.store g2).Z.loadVar]) rfl ⟨(HT2.out.drew.store g2).B, .inr ⟨k, HK.out.1, HK.out.2, HP.out, ?_⟩⟩
    rw [← HG2.out]
end Go.Proofs.Ytgdihccmkleimaa.SigLaw
