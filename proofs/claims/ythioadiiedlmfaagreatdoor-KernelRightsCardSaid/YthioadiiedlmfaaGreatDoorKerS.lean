/- Walks of the kernel's process at wait, and at map. -/
import Derived.Test.YthioadiiedlmfaaGreatDoorKerR
namespace Go.Proofs.YthioadiiedlmfaaGreatDoor
open Go.RowKit
set_option linter.unusedVariables false
set_option linter.unusedSimpArgs false
theorem bd_eab (w : World) (e a b : Int) : (bdR 33 #[(0, .int .i64 e), (1, .int .i64 a), (2, .int .i64 b)]).run Tryz.prog w = .ok (.agg (ansV e a b (.slice none 0 0))) w := by kernel_rfl
theorem ansN3 (e a b : Int) : (ansV e a b (.slice none 0 0)).size = 11 ∧ (ansV e a b (.slice none 0 0)).all (·.oneCell') = true := ⟨rfl, ansV_one _ _ _ rfl⟩
theorem KT.u0 {w0 w1 w2 : World} {k : KC} {s : KSt} (h : KT w0 k s) {S : Nat → Prop} (hu : Upd S w1 w2) (hS : ∀ j, S j → s.tag j ≠ 0) : Upd (fun j => s.tag j ≠ 0) w1 w2 ∧ Upd (fun j => j < w0.heap.size) w1 w2 := ⟨hu.mono fun j _ e => hS j e, hu.mono fun j _ e => h.lt (hS j e)⟩
section
variable {w0 w : World} {k : KC} {s : KSt} {p : Nat} {A : Array Value} {T : KSt → Int → Int → Int → Prop}
attribute [local go_sem ↓] ld_ans st_ans ld_call bd_ans
set_option maxRecDepth 100000 in
set_option maxHeartbeats 1000000 in
theorem proc_wait (h : KT w0 k s) (p1 : 1 ≤ p) (p16 : p ≤ 16) (hA : A.size = 7) (ha : A[0]? = some (.int .i64 4))
    (hT : ∀ (r c en : Int) (t' : ProcLaw.T), ((en ≠ 0 ∧ t' = s.t ∧ (ProcLaw.livR s.t p ≠ 0 ∨ (∀ j, j < 17 → ¬ ((s.t j).par = p ∧ (s.t j).st = 2)) ∧ (en = 9 ∧ (∃ j, j < 17 ∧ (s.t j).st ≠ 0 ∧ (s.t j).par = p) ∨ en = 4 ∧ ¬ ∃ j, j < 17 ∧ (s.t j).st ≠ 0 ∧ (s.t j).par = p))) ∨ (en = 0 ∧ ∃ k q : Nat, r = k ∧ k < 17 ∧ (p : Int) = q ∧ ProcLaw.alive s.t q ∧ (s.t k).st = 2 ∧ (s.t k).par = q ∧ (∀ j, j < k → ¬ ((s.t j).par = p ∧ (s.t j).st = 2)) ∧ c = (s.t k).code ∧ t' = ProcLaw.updE s.t k ProcLaw.e0)) → T { s with t := t' } en r c) :
    Spec w0 (KOut w0.heap.size k s.tag T) 38 #[.pointer (some ⟨k.K, 0, none⟩), .int .i64 p, .agg A] := by
  intro w h0
  have ok := kout_ok (k := k) (w0 := w0) (tag0 := s.tag) h.tz T
  have hb1 := Go.Joins.below_alloc1 w (.cells A 36)
  have hal : Below w.heap.size w ((w.alloc (.cells A 36)).alloc (.cells ansZ 33)) := hb1.trans ((Go.Joins.below_alloc1 _ _).mono hb1.size)
  have hr1 := (row_new w 36 A).alloc (.cells ansZ 33)
  have hr2 := row_new (w.alloc (.cells A 36)) 33 ansZ
  rw [size_alloc1] at hr2
  have d0 : ((w.alloc (.cells A 36)).alloc (.cells ansZ 33)).cell? ⟨w.heap.size, 0, none⟩ = some (.int .i64 4) := by rw [hr1.cell, ha]
  have hk := (h.keep h0).keep hal
  have q7 : ((w.alloc (.cells A 36)).alloc (.cells ansZ 33)).cell? ⟨k.K, 7, none⟩ = some (.pointer (some ⟨k.Pr, 0, none⟩)) := by rw [hk.kr.cell (by decide), hk.c7]
  have HWT := Lib.hid (ProcLaw.wait_is p hk.pr)
  have HK := Lib.hid hk
  have HR : Hid (Row ((w.alloc (.cells A 36)).alloc (.cells #[.int .i64 0, .int .i64 0, .int .i64 0, .slice none 0 0, .slice none 0 0, .int .i64 0, .int .i64 0, .int .i64 0, .int .i64 0, .int .i64 0, .int .i64 0] 33)) (w.heap.size + 1) 33 ansZ) := Lib.hid hr2
  have HB := Lib.hid hal
  have HOK := Lib.hid ok
  have H0 := Lib.hid h0
  have HH := Lib.hid h
  have HLT := Lib.hid hr2.lt
  have HT := Lib.hid hT
  have i17 : (p : Int) < 17 := by omega
  clear hal hr1 hr2 hA ok h0 ha hb1 hk h hT
  have hz : ansZ = #[.int .i64 0, .int .i64 0, .int .i64 0, .slice none 0 0, .slice none 0 0, .int .i64 0, .int .i64 0, .int .i64 0, .int .i64 0, .int .i64 0, .int .i64 0] := rfl
  rw [hz] at d0 q7 HB HLT HWT HK
  go_enter Tryz.func38, Tryz.ntmps38
  go_upto_region 1 with fail
  generalize (w.alloc (.cells A 36)).alloc (.cells #[.int .i64 0, .int .i64 0, .int .i64 0, .slice none 0 0, .slice none 0 0, .int .i64 0, .int .i64 0, .int .i64 0, .int .i64 0, .int .i64 0, .int .i64 0] 33) = w1 at *
  go_upto_region 11 with (go_at_call 95; refine HWT.out.mono ?_; rintro e2 w2 ⟨r, c, en, t', rfl, hu, ht, hcase⟩)
  have hk2 := HK.out.procs ht hu
  obtain ⟨hU, hu⟩ := HH.out.u0 hu (fun j e => by rw [e, HH.out.tPr]; decide)
  have ho : KOut w0.heap.size k s.tag T w1 (ansV en r c (.slice none 0 0)) w2 := ⟨_, en, r, c, hk2, HH.out.far _, rfl, HT.out r c en t' hcase, hU⟩
  obtain ⟨hX, hone⟩ := ansN3 en r c
  have hbd := fun w => bd_eab w en r c
  clear hk2 hU hcase ht
  generalize ansV en r c (.slice none 0 0) = X at *
  have hr := ans_row H0.out HR.out (Nat.le_succ _) hu
  have hst := ans_st hr hX hone
  have HLD := Lib.hid (ans_ldV hr hX)
  have HP := Lib.hid (HOK.out.put (C := X) H0.out HB.out hu ho (Nat.le_succ _) HLT.out)
  have HX := Lib.hid (And.intro hX hone)
  clear hr hX hone hu ho
  generalize w2.setRow (w.heap.size + 1) X = w3 at *
  go_wp2_with fail
  exact bodyPost_ret (v := .agg X) (by rw [results_cell1 rfl]; simp [asAddr, Result.andThen, HLD.out]) rfl ⟨X, rfl, HX.out.1, HX.out.2, HP.out.1, HP.out.2⟩
theorem Grew.mB {B0 : Nat} {m m' : MS} {b : Nat} {a r : Int} {new : List Nat} (g : Grew B0 m m' b a r new) {M so j : Nat} (hj : mB M so m' j) : mB M so m j ∨ B0 ≤ j := by
  rcases hj with q | q | q | ⟨x, q⟩ | q
  · exact .inl (.inl q)
  · exact .inl (.inr (.inl q))
  · rcases g.pv with e | ⟨x, h1, e⟩
    · exact .inl (.inr (.inr (.inl (e ▸ q))))
    · rw [e] at q
      injection q with q
      exact .inr (by omega)
  · exact .inl (.inr (.inr (.inr (.inl ⟨x, by rw [← g.S]; exact q⟩))))
  · rw [g.pl] at q
    rcases List.mem_append.mp q with q | q
    · exact .inl (.inr (.inr (.inr (.inr q))))
    · exact .inr (g.nw j q)
set_option maxRecDepth 100000 in
set_option maxHeartbeats 1000000 in
theorem proc_map (h : KT w0 k s) (p1 : 1 ≤ p) (p16 : p ≤ 16) (hA : A.size = 7) (ha : A[0]? = some (.int .i64 23)) {a r s1 : Int} {n b : Nat} (ha1 : A[1]? = some (.int .i64 a)) (ha2 : A[2]? = some (.int .i64 n)) (ha3 : A[3]? = some (.int .i64 r)) (hsp : s.c (8 + p * 38) = .int .i64 s1)
    (hs : s.m.S s1 = some b) (hwf : (Lit.int .i64 s1).wf = true) (ha0 : 0 ≤ a) (hn : 1 ≤ n) (hn' : (n : Int) ≤ 64 - a) (hr0 : 0 ≤ r) (hr7 : r ≤ 7) (hfree : ∀ j, j < n → s.m.F b (a + (j : Nat)) = none) (hc : (s.m.pl.countP s.m.h : Int) + n ≤ 64) (hl : (s.m.pl.length : Int) + n ≤ 128) (hnF : s.m.nF b < 10000)
    (hT : ∀ B0 m' new tag', new.length = n → Grew B0 s.m m' b a r new → T { s with m := m', tag := tag' } 0 0 0) :
    Spec w0 (KOut w0.heap.size k s.tag T) 38 #[.pointer (some ⟨k.K, 0, none⟩), .int .i64 p, .agg A] := by
  intro w h0
  have ok := kout_ok (k := k) (w0 := w0) (tag0 := s.tag) h.tz T
  have hb1 := Go.Joins.below_alloc1 w (.cells A 36)
  have hal : Below w.heap.size w ((w.alloc (.cells A 36)).alloc (.cells ansZ 33)) := hb1.trans ((Go.Joins.below_alloc1 _ _).mono hb1.size)
  have hr1 := (row_new w 36 A).alloc (.cells ansZ 33)
  have hr2 := row_new (w.alloc (.cells A 36)) 33 ansZ
  rw [size_alloc1] at hr2
  have d0 : ((w.alloc (.cells A 36)).alloc (.cells ansZ 33)).cell? ⟨w.heap.size, 0, none⟩ = some (.int .i64 23) := by rw [hr1.cell, ha]
  have d1 : ((w.alloc (.cells A 36)).alloc (.cells ansZ 33)).cell? ⟨w.heap.size, 1, none⟩ = some (.int .i64 a) := by rw [hr1.cell, ha1]
  have d2 : ((w.alloc (.cells A 36)).alloc (.cells ansZ 33)).cell? ⟨w.heap.size, 2, none⟩ = some (.int .i64 n) := by rw [hr1.cell, ha2]
  have d3 : ((w.alloc (.cells A 36)).alloc (.cells ansZ 33)).cell? ⟨w.heap.size, 3, none⟩ = some (.int .i64 r) := by rw [hr1.cell, ha3]
  have hk := (h.keep h0).keep hal
  have q1 : ((w.alloc (.cells A 36)).alloc (.cells ansZ 33)).cell? ⟨k.K, 1, none⟩ = some (.pointer (some ⟨k.M, 0, none⟩)) := by rw [hk.kr.cell (by decide), hk.c1]
  have q8 : ((w.alloc (.cells A 36)).alloc (.cells ansZ 33)).cell? ⟨k.K, 8 + p * 38, none⟩ = some (.int .i64 s1) := by rw [hk.kr.cell (by omega), hsp]
  have HMP := Lib.hid (mapG_is (hk.me.keep (Below.refl _ _).drew) hs hwf ha0 hn hn' hr0 hr7 hfree ⟨by decide, by decide⟩ ⟨by decide, by decide⟩ hc (by omega) hnF)
  have HK := Lib.hid hk
  have HR : Hid (Row ((w.alloc (.cells A 36)).alloc (.cells #[.int .i64 0, .int .i64 0, .int .i64 0, .slice none 0 0, .slice none 0 0, .int .i64 0, .int .i64 0, .int .i64 0, .int .i64 0, .int .i64 0, .int .i64 0] 33)) (w.heap.size + 1) 33 ansZ) := Lib.hid hr2
  have HB := Lib.hid hal
  have HOK := Lib.hid ok
  have H0 := Lib.hid h0
  have HH := Lib.hid h
  have HLT := Lib.hid hr2.lt
  have HT := Lib.hid hT
  have i17 : (p : Int) < 17 := by omega
  clear hal hr1 hr2 hA ok h0 ha ha1 ha2 ha3 hb1 hk h hT hs hwf ha0 hn hn' hr0 hr7 hfree hc hl hnF hsp
  have hz : ansZ = #[.int .i64 0, .int .i64 0, .int .i64 0, .slice none 0 0, .slice none 0 0, .int .i64 0, .int .i64 0, .int .i64 0, .int .i64 0, .int .i64 0, .int .i64 0] := rfl
  rw [hz] at d0 d1 d2 d3 q1 q8 HB HLT HMP HK
  go_enter Tryz.func38, Tryz.ntmps38
  go_upto_region 1 with fail
  generalize (w.alloc (.cells A 36)).alloc (.cells #[.int .i64 0, .int .i64 0, .int .i64 0, .slice none 0 0, .slice none 0 0, .int .i64 0, .int .i64 0, .int .i64 0, .int .i64 0, .int .i64 0, .int .i64 0] 33) = w1 at *
  go_upto_region 21 with fail
  have hK0 : k.K < w0.heap.size := HH.out.lt (by rw [HH.out.tK]; decide)
  have hKK : Hid (∀ w2, Upd (fun j => mB k.M k.so s.m j ∨ j = w.heap.size + 1) w1.drew w2 → w2.cell? ⟨k.K, 1, none⟩ = some (.pointer (some ⟨k.M, 0, none⟩)) ∧ w2.cell? ⟨k.K, 8 + p * 38, none⟩ = some (.int .i64 s1) ∧ w2.cell? ⟨w.heap.size, 1, none⟩ = some (.int .i64 a) ∧ w2.cell? ⟨w.heap.size, 2, none⟩ = some (.int .i64 n) ∧ w2.cell? ⟨w.heap.size, 3, none⟩ = some (.int .i64 r)) := Lib.hid fun w2 hu => by
    have e1 : ¬ mB k.M k.so s.m k.K := fun e => by have := HH.out.tM _ e; rw [HH.out.tK] at this; exact absurd this (by decide)
    have e2 : ¬ mB k.M k.so s.m w.heap.size := fun e => by have := HH.out.lt (by rw [HH.out.tM _ e]; decide); have := H0.out.size; omega
    have l1 := World.block_lt_of_cell? w1 _ q1
    have l2 := World.block_lt_of_cell? w1 _ d1
    have f1 : ¬ (mB k.M k.so s.m k.K ∨ k.K = w.heap.size + 1) := fun e => e.elim e1 (fun e => by have := H0.out.size; omega)
    have f2 : ¬ (mB k.M k.so s.m w.heap.size ∨ w.heap.size = w.heap.size + 1) := fun e => e.elim e2 (fun e => by omega)
    exact ⟨(hu.cell l1 f1).trans q1, (hu.cell l1 f1).trans q8, (hu.cell l2 f2).trans d1, (hu.cell l2 f2).trans d2, (hu.cell l2 f2).trans d3⟩
  have HF : Hid (∀ m', FarT s.tag w1.heap.size (tg s.tag w1.heap.size (mB k.M k.so m') 6)) := Lib.hid fun m' j hj => by
    rcases Nat.lt_or_ge j w1.heap.size with q | q
    · rw [tg_old q] at hj; exact .inl hj
    · exact .inr q
  have hS1 := hKK.out w1.drew (Upd.refl _ _)
  go_region_held3 (fun wx => wx.cell? ⟨k.K, 1, none⟩ = some (.pointer (some ⟨k.M, 0, none⟩)) ∧ wx.cell? ⟨k.K, 8 + p * 38, none⟩ = some (.int .i64 s1) ∧ wx.cell? ⟨w.heap.size, 1, none⟩ = some (.int .i64 a) ∧ wx.cell? ⟨w.heap.size, 2, none⟩ = some (.int .i64 n) ∧ wx.cell? ⟨w.heap.size, 3, none⟩ = some (.int .i64 r)) (first | exact ⟨q1, q8, d1, d2, d3⟩ | exact hS1 | exact hS2 | exact hS3 | exact hS4 | assumption)
    (first | (go_at_call 100; (with_reducible refine HMP.out.mono ?_); rintro e2 w2 ⟨rfl, m', new, hlen, hadds⟩; have hS2 := hKK.out w2 (hadds.hu.mono fun _ _ e => .inl e); have HG := Lib.hid hadds; have HLEN := Lib.hid hlen; clear hadds hlen) | (go_at_call 12; (with_reducible refine (fail_is _ 0).mono ?_); rintro e4 w4 ⟨rfl, hb4⟩; have hu4 := HG.out.hu.trans (Upd.below hb4); have hS3 := hKK.out w4 (hu4.mono fun _ _ e => .inl e); obtain ⟨hU, hu⟩ := HH.out.u0 ((Upd.drew w1).trans hu4) (fun j e => by rw [HH.out.tM _ e]; decide); obtain ⟨hX, hone⟩ := ansN 0; have hk4 := (HK.out.keep (Below.refl _ _).drew).mem HG.out.mem HG.out.hu (fun j e => HG.out.gr.mB e) |>.keep hb4; have ho : KOut w0.heap.size k s.tag T w1 (ansV 0 0 0 (.slice none 0 0)) w4 := ⟨_, 0, 0, 0, hk4, HF.out _, rfl, HT.out _ _ _ _ HLEN.out HG.out.gr, hU⟩; clear hk4 hU; generalize ansV 0 0 0 (.slice none 0 0) = X at *; have hr := ans_row H0.out HR.out (Nat.le_succ _) hu; have hst := ans_st hr hX hone; have HLD := Lib.hid (ans_ldV hr hX); have HP := Lib.hid (HOK.out.put (C := X) H0.out HB.out hu ho (Nat.le_succ _) HLT.out); have HX := Lib.hid (And.intro hX hone); have hS4 := hKK.out (w4.setRow (w.heap.size + 1) X) ((hu4.mono fun _ _ e => .inl e).trans (Upd.setRow w4 X (.inr rfl))); clear hr hX hone hu ho hu4; generalize w4.setRow (w.heap.size + 1) X = w3 at *))
  go_wp2_with fail
  exact bodyPost_ret (v := .agg X) (by rw [results_cell1 rfl]; simp [asAddr, Result.andThen, HLD.out]) rfl ⟨X, rfl, HX.out.1, HX.out.2, HP.out.1, HP.out.2⟩
end
end Go.Proofs.YthioadiiedlmfaaGreatDoor
