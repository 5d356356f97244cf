/- The walks of package open: Dup, and Close of no descriptor. -/
import Derived.Test.YtddfgdodpjmjfaaOpenOpen
namespace Go.Proofs.Ytddfgdodpjmjfaa.OpenLaw
open Go.RowKit
set_option linter.unusedVariables false

abbrev z5 : Array Value := #[.int .i64 0, .int .i64 0, .int .i64 0, .bool false, .int .i64 0]
theorem KB.has {b g : Nat} {u w : World} {cs : List Value} (h : KB b u w) (hc : Has u g cs) (hg : g ≠ b) : Has w g cs :=
  ⟨Nat.lt_of_lt_of_le hc.1 h.size, fun i v hv => h.cell (hc.2 i v hv) hg⟩
theorem KB.frozen {b g : Nat} {u w : World} (h : KB b u w) (hl : g < u.heap.size) (hg : g ≠ b) (i : Nat) (hz : u.frozen? ⟨g, i, none⟩ = false) : w.frozen? ⟨g, i, none⟩ = false :=
  (World.frozen?_of_block (w := u) (h.block g hl (by intro e; exact hg (Option.some.inj e)))).trans hz
structure St (w w3 : World) (b gR gW : Nat) (fs : Nat → F) (fd : Nat → Nat) (vs : List Value) : Prop where
  K : KB b w w3
  T : OTab w3 b fs fd
  R : Has w3 gR [.int .i64 0, .int .i64 0, .int .i64 0, .bool false, .int .i64 0]
  V : Has w3 gW vs
  zr : ∀ i, w3.frozen? ⟨gR, i, none⟩ = false
  zw : ∀ i, w3.frozen? ⟨gW, i, none⟩ = false
theorem has_set {w : World} {g i : Nat} {l : List Value} (h : Has w g l) (hi : i < l.length) (v : Value) : Has (w.setCell ⟨g, i, none⟩ v) g (l.set i v) := by
  refine ⟨by simpa using h.1, fun j u hu => ?_⟩
  by_cases e : j = i
  · subst e
    rw [List.getElem?_set_self hi] at hu
    cases hu
    exact set_same (h.2 j l[j] (List.getElem?_eq_getElem hi))
  · rw [List.getElem?_set_ne (Ne.symm e)] at hu
    exact set_other (Ne.symm e) (h.2 j u hu)
section
variable {w w3 : World} {b gR gW i : Nat} {fs : Nat → F} {fd : Nat → Nat} {vs : List Value}
theorem St.set (h : St w w3 b gR gW fs fd vs) (h1 : gW ≠ b) (h2 : gW ≠ gR) (h3 : w.heap.size ≤ gW) (hi : i < vs.length) (v : Value) : St w (w3.setCell ⟨gW, i, none⟩ v) b gR gW fs fd (vs.set i v) :=
  ⟨h.K.other h3 v, h.T.other h1 v, has_other h.R h2.symm v, has_set h.V hi v, fun j => by rw [World.frozen?_setCell]; exact h.zr j, fun j => by rw [World.frozen?_setCell]; exact h.zw j⟩
theorem St.set5 {a0 a1 a2 a3 a4 : Value} (h : St w w3 b gR gW fs fd [a0, a1, a2, a3, a4]) (h1 : gW ≠ b) (h2 : gW ≠ gR) (h3 : w.heap.size ≤ gW) (v0 v1 v2 v3 v4 : Value) :
    St w (((((w3.setCell ⟨gW, 0, none⟩ v0).setCell ⟨gW, 1, none⟩ v1).setCell ⟨gW, 2, none⟩ v2).setCell ⟨gW, 3, none⟩ v3).setCell ⟨gW, 4, none⟩ v4) b gR gW fs fd [v0, v1, v2, v3, v4] :=
  ((((h.set h1 h2 h3 (by simp) v0).set h1 h2 h3 (by simp) v1).set h1 h2 h3 (by simp) v2).set h1 h2 h3 (by simp) v3).set h1 h2 h3 (by simp) v4
end
set_option maxRecDepth 100000 in
set_option maxHeartbeats 400000 in
theorem close_none {w : World} {b p j : Nat} {fs : Nat → F} {fd : Nat → Nat} (h : OTab w b fs fd) (h1 : 1 ≤ p) (h2 : p ≤ 16) (hj : j < 8) (hx : fd (p * 8 + j) = 0) : Calls Try.prog 52 #[.pointer (some ⟨b, 0, none⟩), .int .i64 p, .int .i64 j] w fun e w' => e = .returned (.tuple #[.agg z5, .bool false, .int .i64 4]) ∧ Below w.heap.size w w' := by
  have HF := Lib.hid (find_none (h.alloc (.cells z5 86)) h1 h2 hj hx)
  have HH := Lib.hid (h.alloc (.cells z5 86))
  have HB := Lib.hid (Go.Joins.below_alloc1 w (.cells z5 86))
  have HR := Lib.hid (has_new w [.int .i64 0, .int .i64 0, .int .i64 0, .bool false, .int .i64 0] 86)
  have HZ := Lib.hid (fun i => frozen_new w z5 86 i)
  clear hx h h1 h2 hj
  go_enter Try.func52, Try.ntmps52
  go_wp2_with fail
  refine HF.out.mono ?_
  rintro e w1 ⟨rfl, hb1⟩
  have R := HR.out.keep hb1
  have r0 := R.2 0 _ rfl
  have r1 := R.2 1 _ rfl
  have r2 := R.2 2 _ rfl
  have r3 := R.2 3 _ rfl
  have r4 := R.2 4 _ rfl
  have z : ∀ i, w1.frozen? ⟨w.heap.size, i, none⟩ = false := fun i => (hb1.frozen (p := ⟨w.heap.size, i, none⟩) (by simp)).trans (HZ.out i)
  have HK := Lib.hid (Below.trans HB.out (hb1.mono (by simp)))
  clear R hb1
  go_wp2
  refine bodyPost_ret (v := .tuple #[.agg z5, .bool false, .int .i64 4]) (by rw [results_cell3 rfl]; go_simp) rfl ⟨rfl, ?_⟩
  exact ((((HK.out.setCell (p := ⟨_, _, none⟩) (Nat.le_refl _) _).setCell (p := ⟨_, _, none⟩) (Nat.le_refl _) _).setCell (p := ⟨_, _, none⟩) (Nat.le_refl _) _).setCell (p := ⟨_, _, none⟩) (Nat.le_refl _) _).setCell (p := ⟨_, _, none⟩) (Nat.le_refl _) _
set_option maxRecDepth 100000 in
set_option maxHeartbeats 400000 in
theorem dup_none {w : World} {b p j to : Nat} {fs : Nat → F} {fd : Nat → Nat} (h : OTab w b fs fd) (h1 : 1 ≤ p) (h2 : p ≤ 16) (hj : j < 8) (hx : fd (p * 8 + j) = 0) : Calls Try.prog 49 #[.pointer (some ⟨b, 0, none⟩), .int .i64 p, .int .i64 j, .int .i64 to] w fun e w' => e = .returned (.tuple #[.agg z5, .bool false, .int .i64 4]) ∧ Below w.heap.size w w' := by
  have HF := Lib.hid (find_none (h.alloc (.cells z5 86)) h1 h2 hj hx)
  have HH := Lib.hid (h.alloc (.cells z5 86))
  have HB := Lib.hid (Go.Joins.below_alloc1 w (.cells z5 86))
  have HR := Lib.hid (has_new w [.int .i64 0, .int .i64 0, .int .i64 0, .bool false, .int .i64 0] 86)
  have HZ := Lib.hid (fun i => frozen_new w z5 86 i)
  clear hx h h1 h2 hj
  go_enter Try.func49, Try.ntmps49
  go_wp2_with fail
  refine HF.out.mono ?_
  rintro e w1 ⟨rfl, hb1⟩
  have R := HR.out.keep hb1
  have r0 := R.2 0 _ rfl
  have r1 := R.2 1 _ rfl
  have r2 := R.2 2 _ rfl
  have r3 := R.2 3 _ rfl
  have r4 := R.2 4 _ rfl
  have z : ∀ i, w1.frozen? ⟨w.heap.size, i, none⟩ = false := fun i => (hb1.frozen (p := ⟨w.heap.size, i, none⟩) (by simp)).trans (HZ.out i)
  have HK := Lib.hid (Below.trans HB.out (hb1.mono (by simp)))
  clear R hb1
  go_wp2
  refine bodyPost_ret (v := .tuple #[.agg z5, .bool false, .int .i64 4]) (by rw [results_cell3 rfl]; go_simp) rfl ⟨rfl, ?_⟩
  exact ((((HK.out.setCell (p := ⟨_, _, none⟩) (Nat.le_refl _) _).setCell (p := ⟨_, _, none⟩) (Nat.le_refl _) _).setCell (p := ⟨_, _, none⟩) (Nat.le_refl _) _).setCell (p := ⟨_, _, none⟩) (Nat.le_refl _) _).setCell (p := ⟨_, _, none⟩) (Nat.le_refl _) _
set_option maxRecDepth 100000 in
set_option maxHeartbeats 400000 in
theorem dup_same {w : World} {b p j k : Nat} {fs : Nat → F} {fd : Nat → Nat} (h : OTab w b fs fd) (h1 : 1 ≤ p) (h2 : p ≤ 16) (hj : j < 8) (hx : fd (p * 8 + j) = k + 1) : Calls Try.prog 49 #[.pointer (some ⟨b, 0, none⟩), .int .i64 p, .int .i64 j, .int .i64 j] w fun e w' => e = .returned (.tuple #[.agg z5, .bool false, .int .i64 0]) ∧ Below w.heap.size w w' := by
  have hk : k < 32 := by have := h.le (p * 8 + j); omega
  have HF := Lib.hid (find_some (h.alloc (.cells z5 86)) h1 h2 hj hx)
  have HH := Lib.hid (h.alloc (.cells z5 86))
  have HB := Lib.hid (Go.Joins.below_alloc1 w (.cells z5 86))
  have HR := Lib.hid (has_new w [.int .i64 0, .int .i64 0, .int .i64 0, .bool false, .int .i64 0] 86)
  have HZ := Lib.hid (fun i => frozen_new w z5 86 i)
  have hji : ¬ (8 ≤ (j : Int)) := by omega
  have hji2 : ¬ ((j : Int) < 0) := by omega
  have hji3 : decide (8 ≤ (j : Int)) = false := by simp; omega
  clear hx h h1 h2 hj hk
  go_enter Try.func49, Try.ntmps49
  go_wp2_with fail
  refine HF.out.mono ?_
  rintro e w1 ⟨rfl, hb1⟩
  have R := HR.out.keep hb1
  have r0 := R.2 0 _ rfl
  have r1 := R.2 1 _ rfl
  have r2 := R.2 2 _ rfl
  have r3 := R.2 3 _ rfl
  have r4 := R.2 4 _ rfl
  have z : ∀ i, w1.frozen? ⟨w.heap.size, i, none⟩ = false := fun i => (hb1.frozen (p := ⟨w.heap.size, i, none⟩) (by simp)).trans (HZ.out i)
  have HK := Lib.hid (Below.trans HB.out (hb1.mono (by simp)))
  clear R hb1
  go_wp2
  refine bodyPost_ret (v := .tuple #[.agg z5, .bool false, .int .i64 0]) (by rw [results_cell3 rfl]; go_simp) rfl ⟨rfl, ?_⟩
  exact ((((HK.out.setCell (p := ⟨_, _, none⟩) (Nat.le_refl _) _).setCell (p := ⟨_, _, none⟩) (Nat.le_refl _) _).setCell (p := ⟨_, _, none⟩) (Nat.le_refl _) _).setCell (p := ⟨_, _, none⟩) (Nat.le_refl _) _).setCell (p := ⟨_, _, none⟩) (Nat.le_refl _) _
set_option maxRecDepth 100000 in
set_option maxHeartbeats 400000 in
theorem dup_free {w : World} {b p j to k : Nat} {fs : Nat → F} {fd : Nat → Nat} (h : OTab w b fs fd) (h1 : 1 ≤ p) (h2 : p ≤ 16) (hj : j < 8) (ht : to < 8) (hjt : j ≠ to) (hx : fd (p * 8 + j) = k + 1) (hy : fd (p * 8 + to) = 0) (hn : 0 ≤ (fs k).n ∧ (fs k).n ≤ 200) :
    Calls Try.prog 49 #[.pointer (some ⟨b, 0, none⟩), .int .i64 p, .int .i64 j, .int .i64 to] w fun e w' => e = .returned (.tuple #[.agg z5, .bool false, .int .i64 0]) ∧ KB b w w' ∧ OTab w' b (updF fs k { fs k with n := (fs k).n + 1 }) (updN fd (p * 8 + to) (k + 1)) := by
  have hk : k < 32 := by have := h.le (p * 8 + j); omega
  have HF := Lib.hid (find_some (h.alloc (.cells z5 86)) h1 h2 hj hx)
  have HH := Lib.hid (h.alloc (.cells z5 86))
  have HB := Lib.hid (Go.Joins.below_alloc1 w (.cells z5 86))
  have HR := Lib.hid (has_new w [.int .i64 0, .int .i64 0, .int .i64 0, .bool false, .int .i64 0] 86)
  have HZ := Lib.hid (fun i => frozen_new w z5 86 i)
  have hti : ¬ (8 ≤ (to : Int)) := by omega
  have hti2 : ¬ ((to : Int) < 0) := by omega
  have hti3 : decide (8 ≤ (to : Int)) = false := by simp; omega
  have hjt' : ((to : Int) == (j : Int)) = false := by simp; omega
  have hne : w.heap.size ≠ b := by have := h.lt; omega
  have hps : (p : Int) < 17 := by omega
  have hjs : (j : Int) < 8 := by omega
  have hts : (to : Int) < 8 := by omega
  have HP := Lib.hid (show p < 17 by omega)
  have HJ := Lib.hid hj
  have HTO := Lib.hid ht
  have HQ := Lib.hid hk
  have HX := Lib.hid hx
  have HY := Lib.hid hy
  have HN := Lib.hid hn
  have HBL := Lib.hid h.lt
  clear hx h h1 h2 hj hk hy hn ht hjt
  go_enter Try.func49, Try.ntmps49
  go_wp2_with fail
  refine HF.out.mono ?_
  rintro e w1 ⟨rfl, hb1⟩
  have hs1 := hb1.size
  simp only [World.size_alloc] at hs1
  have HT := Lib.hid ((HH.out.keep hb1).alloc (.cells z5 86))
  have HS := Lib.hid ((HR.out.keep hb1).alloc (.cells z5 86))
  have HV := Lib.hid (has_new w1 [.int .i64 0, .int .i64 0, .int .i64 0, .bool false, .int .i64 0] 86)
  have HZ1 := Lib.hid (fun i => (hb1.frozen (p := ⟨w.heap.size, i, none⟩) (by simp)).trans (HZ.out i))
  have HZR : Hid (∀ i, (w1.alloc (.cells z5 86)).frozen? ⟨w.heap.size, i, none⟩ = false) := Lib.hid (fun i => ((Go.Joins.below_alloc1 w1 (.cells z5 86)).frozen (p := ⟨w.heap.size, i, none⟩) (by show w.heap.size < w1.heap.size; omega)).trans (HZ1.out i))
  have HK := Lib.hid ((KB.of (b := b) (Below.trans HB.out (hb1.mono (by simp)))).alloc (.cells z5 86))
  have dt := HT.out.d p to HP.out HTO.out
  rw [HY.out] at dt
  have hgw : w1.heap.size ≠ b := by have := HBL.out; omega
  have hgr : w1.heap.size ≠ w.heap.size := by omega
  clear hb1 hs1
  go_wp2_with fail
  clear dt
  generalize w1.heap.size = gW at *
  generalize w1.alloc (.cells z5 86) = w2 at *
  have c5 := HT.out.c5 k HQ.out
  have dj := HT.out.d p j HP.out HJ.out
  have dt := HT.out.d p to HP.out HTO.out
  rw [HX.out] at dj
  rw [show ((k + 1 : Nat) : Int) = (k : Int) + 1 from rfl] at dj
  have r0 := HS.out.2 0 _ rfl
  have r1 := HS.out.2 1 _ rfl
  have r2 := HS.out.2 2 _ rfl
  have r3 := HS.out.2 3 _ rfl
  have r4 := HS.out.2 4 _ rfl
  have v0 := HV.out.2 0 _ rfl
  have v1 := HV.out.2 1 _ rfl
  have v2 := HV.out.2 2 _ rfl
  have v3 := HV.out.2 3 _ rfl
  have v4 := HV.out.2 4 _ rfl
  have z := HZR.out
  have zb : ∀ i, w2.frozen? ⟨b, i, none⟩ = false := HT.out.fz
  have n1 : 192 + p * 8 + to ≠ k * 6 + 5 := by have := HQ.out; omega
  have n2 : k * 6 + 5 ≠ 192 + p * 8 + to := by have := HQ.out; omega
  have hn := HN.out
  go_region
  go_wp2
  refine bodyPost_ret (v := .tuple #[.agg z5, .bool false, .int .i64 0]) (by rw [results_cell3 rfl]; go_simp) rfl ⟨rfl, ?_, ?_⟩
  · exact (((((((HK.out.setc _ _).setc _ _).other (Nat.le_refl _) _).other (Nat.le_refl _) _).other (Nat.le_refl _) _).other (Nat.le_refl _) _).other (Nat.le_refl _) _).drew
  · exact (((((((HT.out.setD1 HP.out HTO.out HQ.out).setN HQ.out _).other hne _).other hne _).other hne _).other hne _).other hne _).drew
set_option maxRecDepth 100000 in
set_option maxHeartbeats 400000 in
theorem dup_taken {w : World} {b p j to k m : Nat} {fs : Nat → F} {fd : Nat → Nat} (h : OTab w b fs fd) (h1 : 1 ≤ p) (h2 : p ≤ 16) (hj : j < 8) (ht : to < 8) (hjt : j ≠ to) (hx : fd (p * 8 + j) = k + 1) (hy : fd (p * 8 + to) = m + 1) (hm : 0 < (fs m).n ∧ (fs m).n ≤ 200)
    (fs1 : Nat → F) (fd1 : Nat → Nat) (hf1 : updF fs m { fs m with n := (fs m).n - 1 } = fs1) (hd1 : updN fd (p * 8 + to) 0 = fd1) (hn : 0 ≤ (fs1 k).n ∧ (fs1 k).n ≤ 200) :
    Calls Try.prog 49 #[.pointer (some ⟨b, 0, none⟩), .int .i64 p, .int .i64 j, .int .i64 to] w fun e w' => (∃ v, e = .returned (.tuple #[thing v, .bool (decide ((fs m).n = 1)), .int .i64 0])) ∧ KB b w w' ∧ OTab w' b (updF fs1 k { fs1 k with n := (fs1 k).n + 1 }) (updN fd1 (p * 8 + to) (k + 1)) := by
  have hk : k < 32 := by have := h.le (p * 8 + j); omega
  have HF := Lib.hid (find_some (h.alloc (.cells z5 86)) h1 h2 hj hx)
  have HH := Lib.hid (h.alloc (.cells z5 86))
  have HB := Lib.hid (Go.Joins.below_alloc1 w (.cells z5 86))
  have HR := Lib.hid (has_new w [.int .i64 0, .int .i64 0, .int .i64 0, .bool false, .int .i64 0] 86)
  have HZ := Lib.hid (fun i => frozen_new w z5 86 i)
  have hti : ¬ (8 ≤ (to : Int)) := by omega
  have hti2 : ¬ ((to : Int) < 0) := by omega
  have hti3 : decide (8 ≤ (to : Int)) = false := by simp; omega
  have hjt' : ((to : Int) == (j : Int)) = false := by simp; omega
  have hne : w.heap.size ≠ b := by have := h.lt; omega
  have hps : (p : Int) < 17 := by omega
  have hjs : (j : Int) < 8 := by omega
  have hts : (to : Int) < 8 := by omega
  have hx1 : fd1 (p * 8 + j) = k + 1 := by rw [← hd1, updN_other _ _ (by omega)]; exact hx
  have HP := Lib.hid (show p < 17 by omega)
  have HJ := Lib.hid hj
  have HTO := Lib.hid ht
  have HQ := Lib.hid hk
  have HX := Lib.hid hx1
  have HY := Lib.hid hy
  have HN := Lib.hid hn
  have HBL := Lib.hid h.lt
  have HC := Lib.hid (fun (w0 : World) (h0 : OTab w0 b fs fd) => close_is h0 h1 h2 ht hy hm.1 hm.2)
  rw [hf1, hd1] at HC
  have hm0 : (((m : Int) + 1) != 0) = true := by simp; omega
  clear hx h h1 h2 hj hk hy hn ht hjt hx1 hm hf1 hd1
  go_enter Try.func49, Try.ntmps49
  go_wp2_with fail
  refine HF.out.mono ?_
  rintro e w1 ⟨rfl, hb1⟩
  have hs1 := hb1.size
  simp only [World.size_alloc] at hs1
  have HT := Lib.hid ((HH.out.keep hb1).alloc (.cells z5 86))
  have HS := Lib.hid ((HR.out.keep hb1).alloc (.cells z5 86))
  have HV := Lib.hid (has_new w1 [.int .i64 0, .int .i64 0, .int .i64 0, .bool false, .int .i64 0] 86)
  have HZ1 := Lib.hid (fun i => (hb1.frozen (p := ⟨w.heap.size, i, none⟩) (by simp)).trans (HZ.out i))
  have HZR : Hid (∀ i, (w1.alloc (.cells z5 86)).frozen? ⟨w.heap.size, i, none⟩ = false) := Lib.hid (fun i => ((Go.Joins.below_alloc1 w1 (.cells z5 86)).frozen (p := ⟨w.heap.size, i, none⟩) (by show w.heap.size < w1.heap.size; omega)).trans (HZ1.out i))
  have HZW := Lib.hid (fun i => frozen_new w1 z5 86 i)
  have HK := Lib.hid ((KB.of (b := b) (Below.trans HB.out (hb1.mono (by simp)))).alloc (.cells z5 86))
  have dt := HT.out.d p to HP.out HTO.out
  rw [HY.out] at dt
  rw [show ((m + 1 : Nat) : Int) = (m : Int) + 1 from rfl] at dt
  have hgw : w1.heap.size ≠ b := by have := HBL.out; omega
  have hgr : w1.heap.size ≠ w.heap.size := by omega
  have HGW := Lib.hid (show w.heap.size ≤ w1.heap.size by omega)
  clear hb1 hs1
  go_wp2_with fail
  refine (HC.out _ HT.out).mono ?_
  rintro e w3 ⟨rfl, hk3, ht3⟩
  have HS3 := Lib.hid (hk3.has HS.out hne)
  have HV3 := Lib.hid (hk3.has HV.out hgw)
  have HZR3 := Lib.hid (fun i => hk3.frozen HS.out.1 hne i (HZR.out i))
  have HZW3 := Lib.hid (fun i => hk3.frozen HV.out.1 hgw i (HZW.out i))
  have HK3 := Lib.hid (HK.out.trans hk3)
  have HT3 := Lib.hid ht3
  clear hk3 ht3 dt HT HS HV HZR HZW HK HZ HR HF HH HB HC HZ1
  generalize w1.heap.size = gW at *
  obtain ⟨gone, hG⟩ : ∃ g, decide ((fs m).n = 1) = g := ⟨_, rfl⟩
  rw [hG]
  have HG := Lib.hid hG
  clear hG
  have v0 := HV3.out.2 0 _ rfl
  have v1 := HV3.out.2 1 _ rfl
  have v2 := HV3.out.2 2 _ rfl
  have v3 := HV3.out.2 3 _ rfl
  have v4 := HV3.out.2 4 _ rfl
  have zw := HZW3.out
  simp only [thing]
  generalize (fs m).kind = q0 at *
  generalize (fs m).id = q1 at *
  generalize (fs m).may = q2 at *
  generalize (fs m).more = q3 at *
  generalize (fs m).pos = q4 at *
  have HST : Hid (St w w3 b w.heap.size gW fs1 fd1 _) := Lib.hid ⟨HK3.out, HT3.out, HS3.out, HV3.out, HZR3.out, HZW3.out⟩
  clear HK3 HT3 HS3 HV3 HZR3 HZW3
  cases gone
  · go_wp2_with fail
    have HW := Lib.hid ((HST.out.set5 hgw hgr HGW.out (.int .i64 q0) (.int .i64 q1) (.int .i64 q2) (.bool q3) (.int .i64 q4)).set5 hgw hgr HGW.out (.int .i64 0) (.int .i64 0) (.int .i64 0) (.bool false) (.int .i64 0))
    clear v0 v1 v2 v3 v4 zw HST
    revert HW
    generalize hw2 : World.setCell _ _ _ = w2
    intro HW
    clear hw2
    have HT := Lib.hid HW.out.T
    have HS := Lib.hid HW.out.R
    have HV := Lib.hid HW.out.V
    have HZR := Lib.hid HW.out.zr
    have HK := Lib.hid HW.out.K
    have c5 := HT.out.c5 k HQ.out
    have dj := HT.out.d p j HP.out HJ.out
    have dt := HT.out.d p to HP.out HTO.out
    rw [HX.out] at dj
    rw [show ((k + 1 : Nat) : Int) = (k : Int) + 1 from rfl] at dj
    have r0 := HS.out.2 0 _ rfl
    have r1 := HS.out.2 1 _ rfl
    have r2 := HS.out.2 2 _ rfl
    have r3 := HS.out.2 3 _ rfl
    have r4 := HS.out.2 4 _ rfl
    have v0 := HV.out.2 0 _ rfl
    have v1 := HV.out.2 1 _ rfl
    have v2 := HV.out.2 2 _ rfl
    have v3 := HV.out.2 3 _ rfl
    have v4 := HV.out.2 4 _ rfl
    have z := HZR.out
    have zb : ∀ i, w2.frozen? ⟨b, i, none⟩ = false := HT.out.fz
    have n1 : 192 + p * 8 + to ≠ k * 6 + 5 := by have := HQ.out; omega
    have n2 : k * 6 + 5 ≠ 192 + p * 8 + to := by have := HQ.out; omega
    have hn := HN.out
    go_region
    go_wp2
    refine bodyPost_ret (v := .tuple #[.agg z5, .bool false, .int .i64 0]) (by rw [results_cell3 rfl]; go_simp) rfl ⟨⟨f0, by rw [HG.out]; rfl⟩, ?_, ?_⟩
    · exact (((((((HK.out.setc _ _).setc _ _).other (Nat.le_refl _) _).other (Nat.le_refl _) _).other (Nat.le_refl _) _).other (Nat.le_refl _) _).other (Nat.le_refl _) _).drew
    · exact (((((((HT.out.setD1 HP.out HTO.out HQ.out).setN HQ.out _).other hne _).other hne _).other hne _).other hne _).other hne _).drew
  · go_wp2_with fail
    have HW := Lib.hid (HST.out.set5 hgw hgr HGW.out (.int .i64 q0) (.int .i64 q1) (.int .i64 q2) (.bool q3) (.int .i64 q4))
    clear v0 v1 v2 v3 v4 zw HST
    revert HW
    generalize hw2 : World.setCell _ _ _ = w2
    intro HW
    clear hw2
    have HT := Lib.hid HW.out.T
    have HS := Lib.hid HW.out.R
    have HV := Lib.hid HW.out.V
    have HZR := Lib.hid HW.out.zr
    have HK := Lib.hid HW.out.K
    have c5 := HT.out.c5 k HQ.out
    have dj := HT.out.d p j HP.out HJ.out
    have dt := HT.out.d p to HP.out HTO.out
    rw [HX.out] at dj
    rw [show ((k + 1 : Nat) : Int) = (k : Int) + 1 from rfl] at dj
    have r0 := HS.out.2 0 _ rfl
    have r1 := HS.out.2 1 _ rfl
    have r2 := HS.out.2 2 _ rfl
    have r3 := HS.out.2 3 _ rfl
    have r4 := HS.out.2 4 _ rfl
    have v0 := HV.out.2 0 _ rfl
    have v1 := HV.out.2 1 _ rfl
    have v2 := HV.out.2 2 _ rfl
    have v3 := HV.out.2 3 _ rfl
    have v4 := HV.out.2 4 _ rfl
    have z := HZR.out
    have zb : ∀ i, w2.frozen? ⟨b, i, none⟩ = false := HT.out.fz
    have n1 : 192 + p * 8 + to ≠ k * 6 + 5 := by have := HQ.out; omega
    have n2 : k * 6 + 5 ≠ 192 + p * 8 + to := by have := HQ.out; omega
    have hn := HN.out
    go_region
    go_wp2
    refine bodyPost_ret (v := .tuple #[.agg #[.int .i64 q0, .int .i64 q1, .int .i64 q2, .bool q3, .int .i64 q4], .bool true, .int .i64 0]) (by rw [results_cell3 rfl]; go_simp) rfl ⟨⟨⟨q0, q1, q2, q3, q4, 0⟩, by rw [HG.out]; rfl⟩, ?_, ?_⟩
    · exact (((((((HK.out.setc _ _).setc _ _).other (Nat.le_refl _) _).other (Nat.le_refl _) _).other (Nat.le_refl _) _).other (Nat.le_refl _) _).other (Nat.le_refl _) _).drew
    · exact (((((((HT.out.setD1 HP.out HTO.out HQ.out).setN HQ.out _).other hne _).other hne _).other hne _).other hne _).other hne _).drew
end Go.Proofs.Ytddfgdodpjmjfaa.OpenLaw
