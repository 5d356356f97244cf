/- What kernel.open comes to: the three calls of the law of rights. SetId: the walk of process at that call, and what it comes to. -/
import Derived.Test.YthioadiiedlmfaaGreatDoorKfE
namespace Go.Proofs.YthioadiiedlmfaaGreatDoor
open Go.RowKit
set_option linter.unusedVariables false
set_option linter.unusedSimpArgs false
/-- it may be done -/
def MayIs (n : Nd) (U K : Int) (a : Option Addr) (cap : Nat) (W : Int) (ok : Bool) : Prop := ∀ w, Calls Tryz.prog 168 #[.agg (stA n), .agg (crA U K a cap), .int .i64 W] w fun e w' => e = .returned (.tuple #[.bool ok, .int .i64 0]) ∧ Below w.heap.size w w'
theorem may_root {n : Nd} (hk : n.k = 2) (hm : n.m = 493) (hu : n.u = 0) (hg : n.g = 0) (a : Option Addr) (cap : Nat) (hc : cap ≤ maxLen) {W : Int} (hW : W = 4 ∨ W = 2) : MayIs n 0 127 a cap W true := by
  intro w
  have hb := fun w => bitsE_is w n (M := 493) (by rw [hm]; rfl) (K := 127) a cap
  rw [hu] at hb
  have hz : (W = 1 ∧ (if W = 4 then (1 : Int) else 2) = 4) ∨ (W = 2 ∧ (if W = 4 then (1 : Int) else 2) = 2) ∨ (W = 4 ∧ (if W = 4 then (1 : Int) else 2) = 1) := by
    rcases hW with rfl | rfl
    · exact .inr (.inr ⟨rfl, rfl⟩)
    · exact .inr (.inl ⟨rfl, rfl⟩)
  have h := may_is w n (by rw [hm]; decide) (by rw [hu]; decide) (by rw [hg]; decide) (U := 0) (K := 127) (by decide) (.inr rfl) a cap hc hb hz
  have e : (bits .andNot .i64 (if W = 4 then (1 : Int) else 2) (bits .or .i64 ((493 / 64 : Nat) : Int) (if (127 : Int) = 0 then 0 else if n.k = 2 then 7 else 6)) == 0) = true := by
    rw [hk]
    rcases hW with rfl | rfl <;> decide
  rw [e] at h
  exact h
theorem may_rootN {n : Nd} (hk : n.k = 2) (hm : n.m = 493) (hu : n.u = 0) (hg : n.g = 0) {U : Int} (hU : 1 ≤ U ∧ U ≤ 99) (a : Option Addr) (cap : Nat) (hc : cap ≤ maxLen) : MayIs n U 0 a cap 4 true := by
  intro w
  have hb := fun w => bitsN_is w n (M := 493) (by rw [hm]; rfl) (by decide) hg (U := U) (K := 0) (by rw [hu]; omega) (by omega) (by decide) a cap hc
  have h := may_is w n (by rw [hm]; decide) (by rw [hu]; decide) (by rw [hg]; decide) (U := U) (K := 0) (by omega) (.inl rfl) a cap hc hb (W := 4) (z := 1) (.inr (.inr ⟨rfl, rfl⟩))
  have e : (bits .andNot .i64 (1 : Int) (bits .or .i64 ((493 / 8 % 8 : Nat) : Int) (if (0 : Int) = 0 then 0 else if n.k = 2 then 7 else 6)) == 0) = true := by
    rw [if_pos rfl]
    decide
  rw [e] at h
  exact h
/-- whether the mode lets one of the group do it -/
def okF (M : Nat) (wr : Bool) : Bool := bits .andNot .i64 (bif wr then 2 else 4) (bits .or .i64 ((M / 8 % 8 : Nat) : Int) 0) == 0
theorem may_fileN {n : Nd} {M : Nat} (hm : n.m = M) (hM : M ≤ 511) (hu : n.u = 0) (hg : n.g = 0) {U : Int} (hU : 1 ≤ U ∧ U ≤ 99) (a : Option Addr) (cap : Nat) (hc : cap ≤ maxLen) (wr : Bool) : MayIs n U 0 a cap (bif wr then 2 else 1) (okF M wr) := by
  intro w
  have hb := fun w => bitsN_is w n (M := M) hm hM hg (U := U) (K := 0) (by rw [hu]; omega) (by omega) (by decide) a cap hc
  have h := may_is w n (by rw [hm]; omega) (by rw [hu]; decide) (by rw [hg]; decide) (U := U) (K := 0) (by omega) (.inl rfl) a cap hc hb (W := bif wr then 2 else 1) (z := bif wr then 2 else 4) (by cases wr; exact .inl ⟨rfl, rfl⟩; exact .inr (.inl ⟨rfl, rfl⟩))
  rw [if_pos rfl] at h
  exact h
section
variable {w0 w : World} {k : KC} {s : KSt} {fc : FC} {x : FM} {p : Nat} {U K : Int} {a : Option Addr} {cap gc cc : Nat} {A : Array Value}
/-- the first: "f" is made, and open -/
theorem spec_openN (h : KF w0 k s fc x) (q : Who w0 s p 0 127 a cap gc cc) (p1 : 1 ≤ p) {q0 : Nat} (hr : Root0 x q0) (hna : x.na ≤ 24) {m : Int} (hm : 0 ≤ m ∧ m ≤ 511) (hA : A.size = 7) (hA1 : A[1]? = some (.int .i64 3)) (hA2 : A[2]? = some (.int .i64 1)) (hA3 : A[3]? = some (.int .i64 m)) (hA4 : A[4]? = some (.string ⟨#[102]⟩))
    (hh : x.nh < 1000 ∧ hcn (x.held 2) < 1000) (hf1 : ∃ j, j < 8 ∧ s.fd (p * 8 + j) = 0) (hf2 : ∃ k0, k0 < 32 ∧ (s.fs k0).n = 0) (hg1 : ¬ x.bs gc) (hg2 : gc ≠ k.Fi) :
    Spec w0 (KOutF w0.heap.size k fc s.tag x.bs (fun s' x' g e _ _ => e = 0 ∧ ∃ j k0, j < 8 ∧ k0 < 32 ∧ s' = OpenTo s p 3 j k0 ∧ FileF x' q0 m ∧ x'.nh = x.nh + 1 ∧ x'.held 2 = some (hcn (x.held 2)) ∧ g = gc)) 76 #[.pointer (some ⟨k.K, 0, none⟩), .int .i64 p, .agg A] := by
  intro w h0
  have h' := h.keep h0
  have q' := q.keep h0
  have hzz : ∀ j, x.bs j → j < w0.heap.size := h.fs.lt
  have hz := h0.size
  have hgc : gc < w0.heap.size := World.block_lt_of_cell? w0 _ q.g
  have hFi : k.Fi < w0.heap.size := h.kt.lt (by rw [h.kt.tFi]; decide)
  refine (kopenA_is h' p1 q.p16 hA hA1 hA2 hA3 (by decide) (.inr rfl) hm (P := fun x' => FileF x' q0 m ∧ x'.held = x.held ∧ x'.nh = x.nh) (fun wx hb => (openedN_is (h'.keep hb) (q'.keep hb) hr hna hm hA2 hA3 hA4 (may_root hr.k hr.m hr.u hr.g a cap q.hc (.inl rfl)) (may_root hr.k hr.m hr.u hr.g a cap q.hc (.inr rfl))).mono ?_) (fun x' hx' => ?_) hf1 hf2).mono ?_
  · rintro e w' ⟨rfl, x', hk, hf, e1, e2, hu, hs⟩
    exact ⟨rfl, x', hk, ⟨hf, e1, e2⟩, hu, hs⟩
  · obtain ⟨pv, e⟩ := hx'.1.n1
    exact ⟨by rw [e]; exact (by decide : ¬ (1 : Int) = 0), by rw [hx'.2.2]; exact hh.1, by rw [hx'.2.1]; exact hh.2⟩
  · rintro e w' ⟨j, k0, x2, hj, hk0, ⟨hf, e1, e2⟩, hk, rfl, hu, hs⟩
    have hgg : ¬ (gc = k.Fi ∨ x.bs gc ∨ w.heap.size ≤ gc) := by
      rintro (e | e | e)
      · exact hg2 e
      · exact hg1 e
      · omega
    refine ⟨_, rfl, (ansN3' _ _ _).1, (ansN3' _ _ _).2, hu.mono fun i hi e => ?_, OpenTo s p 3 j k0, heldTo x2, gc, 0, j, 0, hk, fun i e => .inl e, hs, (hu.cell (Nat.lt_of_lt_of_le hgc hz) hgg).trans q'.g, .inl hgc, rfl, ⟨rfl, j, k0, hj, hk0, rfl, ?_, ?_, ?_, rfl⟩, hu.mono fun i _ e => ?_⟩
    · rcases e with rfl | e | e
      · exact hFi
      · exact hzz i e
      · omega
    · exact ⟨hf.k, hf.m0, hf.u, hf.g, hf.ps, hf.sz, hf.q0, hf.q1, hf.sec, hf.n1⟩
    · show x2.nh + 1 = _
      rw [e2]
    · show (if (2 : Int) = 2 then some (hcn (x2.held 2)) else x2.held 2) = _
      rw [if_pos rfl, e1]
    · rcases e with rfl | e | e
      · left; rw [h.kt.tFi]; decide
      · exact .inr (.inl e)
      · exact .inr (.inr e)
/-- the second: "f" is there, and it may be opened -/
theorem spec_openF (h : KF w0 k s fc x) (q : Who w0 s p U K a cap gc cc) (p1 : 1 ≤ p) {q0 : Nat} {m W : Int} (hf : FileF x q0 m) (hA : A.size = 7) (hA1 : A[1]? = some (.int .i64 W)) (hA2 : A[2]? = some (.int .i64 0)) (hA3 : A[3]? = some (.int .i64 0)) (hA4 : A[4]? = some (.string ⟨#[102]⟩)) (hW : 1 ≤ W ∧ W ≤ 3)
    (hM : MayIs (x.nd 0) U K a cap 4 true) (hM2 : MayIs (x.nd 1) U K a cap W true)
    (hh : x.nh < 1000 ∧ hcn (x.held 2) < 1000) (hf1 : ∃ j, j < 8 ∧ s.fd (p * 8 + j) = 0) (hf2 : ∃ k0, k0 < 32 ∧ (s.fs k0).n = 0) (hg1 : ¬ x.bs gc) (hg2 : gc ≠ k.Fi) :
    Spec w0 (KOutF w0.heap.size k fc s.tag x.bs (fun s' x' g e _ _ => e = 0 ∧ ∃ j k0, j < 8 ∧ k0 < 32 ∧ s' = OpenTo s p W j k0 ∧ x' = heldTo x ∧ g = gc)) 76 #[.pointer (some ⟨k.K, 0, none⟩), .int .i64 p, .agg A] := by
  intro w h0
  have h' := h.keep h0
  have q' := q.keep h0
  have hzz : ∀ j, x.bs j → j < w0.heap.size := h.fs.lt
  have hz := h0.size
  have hgc : gc < w0.heap.size := World.block_lt_of_cell? w0 _ q.g
  have hFi : k.Fi < w0.heap.size := h.kt.lt (by rw [h.kt.tFi]; decide)
  refine (kopenA_is h' p1 q.p16 hA hA1 hA2 hA3 hW (.inl rfl) (by decide) (P := fun x' => x' = x) (fun wx hb => (openedF_is (h'.keep hb) (q'.keep hb) hf hA1 hA2 hA4 hM hM2).mono ?_) (fun x' hx' => ?_) hf1 hf2).mono ?_
  · rintro e w' ⟨rfl, hbw⟩
    exact ⟨rfl, x, (h'.keep hb).keep hbw, rfl, Upd.below hbw, fun j e => .inl e⟩
  · subst hx'
    obtain ⟨pv, e⟩ := hf.n1
    exact ⟨by rw [e]; exact (by decide : ¬ (1 : Int) = 0), hh.1, hh.2⟩
  · rintro e w' ⟨j, k0, x2, hj, hk0, rfl, hk, rfl, hu, hs⟩
    have hgg : ¬ (gc = k.Fi ∨ x2.bs gc ∨ w.heap.size ≤ gc) := by
      rintro (e | e | e)
      · exact hg2 e
      · exact hg1 e
      · omega
    refine ⟨_, rfl, (ansN3' _ _ _).1, (ansN3' _ _ _).2, hu.mono fun i hi e => ?_, OpenTo s p W j k0, heldTo x2, gc, 0, j, 0, hk, fun i e => .inl e, hs, (hu.cell (Nat.lt_of_lt_of_le hgc hz) hgg).trans q'.g, .inl hgc, rfl, ⟨rfl, j, k0, hj, hk0, rfl, rfl, rfl⟩, hu.mono fun i _ e => ?_⟩
    · rcases e with rfl | e | e
      · exact hFi
      · exact hzz i e
      · omega
    · rcases e with rfl | e | e
      · left; rw [h.kt.tFi]; decide
      · exact .inr (.inl e)
      · exact .inr (.inr e)
attribute [local go_sem ↓] ld_ans st_ans ld_call bd_ans
set_option maxRecDepth 100000 in
set_option maxHeartbeats 1000000 in
theorem kopenX_is (h : KF w k s fc x) (p1 : 1 ≤ p) (p16 : p ≤ 16) {A : Array Value} (hA : A.size = 7) {W : Int} (hA1 : A[1]? = some (.int .i64 W)) (hA2 : A[2]? = some (.int .i64 0)) (hA3 : A[3]? = some (.int .i64 0)) (hW : 1 ≤ W ∧ W ≤ 3)
    (hO : ∀ wx, Below w.heap.size w wx → Calls Tryz.prog 151 #[.pointer (some ⟨k.K, 0, none⟩), .int .i64 p, .agg A] wx fun e w' => e = .returned (.tuple #[.int .i64 0, .int .i64 7]) ∧ Below wx.heap.size wx w') :
    Calls Tryz.prog 76 #[.pointer (some ⟨k.K, 0, none⟩), .int .i64 p, .agg A] w fun e w' => e = .returned (.agg (ansV 7 0 0 (.slice none 0 0))) ∧ Below w.heap.size w w' := by
  have hb1 := Go.Joins.below_alloc1 w (.cells A 36)
  have hal : Below w.heap.size w ((w.alloc (.cells A 36)).alloc (.cells ansZ 33)) := hb1.trans ((Go.Joins.below_alloc1 _ _).mono hb1.size)
  have hr1 := (row_new w 36 A).alloc (.cells ansZ 33)
  have hr2 := row_new (w.alloc (.cells A 36)) 33 ansZ
  rw [size_alloc1] at hr2
  have d1 : ((w.alloc (.cells A 36)).alloc (.cells ansZ 33)).cell? ⟨w.heap.size, 1, none⟩ = some (.int .i64 W) := (hr1.cell 1).trans hA1
  have d2 : ((w.alloc (.cells A 36)).alloc (.cells ansZ 33)).cell? ⟨w.heap.size, 2, none⟩ = some (.int .i64 0) := (hr1.cell 2).trans hA2
  have d3 : ((w.alloc (.cells A 36)).alloc (.cells ansZ 33)).cell? ⟨w.heap.size, 3, none⟩ = some (.int .i64 0) := (hr1.cell 3).trans hA3
  have l2 := tld_callR hr1 hA
  have HO := Lib.hid (hO _ hal)
  have HB := Lib.hid hal
  have HR : Hid (Row ((w.alloc (.cells A 36)).alloc (.cells #[.int .i64 0, .int .i64 0, .int .i64 0, .slice none 0 0, .slice none 0 0, .int .i64 0, .int .i64 0, .int .i64 0, .int .i64 0, .int .i64 0, .int .i64 0] 33)) (w.heap.size + 1) 33 ansZ) := Lib.hid hr2
  have w1 : ¬ W < 1 := by omega
  have w2 : ¬ 3 < W := by omega
  clear h p1 p16 hA hA1 hA2 hA3 hO hb1 hal hr1 hr2 hW
  have hz : ansZ = #[.int .i64 0, .int .i64 0, .int .i64 0, .slice none 0 0, .slice none 0 0, .int .i64 0, .int .i64 0, .int .i64 0, .int .i64 0, .int .i64 0, .int .i64 0] := rfl
  rw [hz] at d1 d2 d3 l2 HB HO
  go_enter Tryz.func76, Tryz.ntmps76
  go_upto_region 1 with fail
  generalize (w.alloc (.cells A 36)).alloc (.cells #[.int .i64 0, .int .i64 0, .int .i64 0, .slice none 0 0, .slice none 0 0, .int .i64 0, .int .i64 0, .int .i64 0, .int .i64 0, .int .i64 0, .int .i64 0] 33) = v1 at *
  go_upto_region 5 with (go_at_call 151; (with_reducible refine HO.out.mono ?_); rintro e2 v2 ⟨rfl, hb2⟩)
  have HFL := Lib.hid (fail_is v2 7)
  have HB2 := Lib.hid (HB.out.trans (hb2.mono HB.out.size))
  have HR2 := Lib.hid (HR.out.keep hb2)
  clear hb2 d1 d2 d3 l2 HO
  obtain ⟨hX, hone⟩ := ansN3' 7 0 0
  have HX := Lib.hid (And.intro hX hone)
  clear hX hone
  go_wp2_with (go_at_call 12; refine HFL.out.mono ?_; rintro e4 v4 ⟨rfl, hb4⟩; have hr4 := HR2.out.keep hb4; have hst := ans_st hr4 HX.out.1 HX.out.2; have HLD := Lib.hid (ans_ldV hr4 HX.out.1); have HB4 := Lib.hid (HB2.out.trans (hb4.mono HB2.out.size)); clear hb4 hr4; generalize hZ : ansV 7 0 0 (.slice none 0 0) = Z at hst HLD ⊢; have HZ := Lib.hid hZ; clear hZ)
  exact bodyPost_ret (v := .agg Z) (by rw [results_cell1 rfl]; simp [asAddr, Result.andThen, HLD.out]) rfl ⟨by rw [HZ.out], HB4.out.trans ((Upd.setRow (S := fun j => j = w.heap.size + 1) v4 Z rfl).toBelow HB4.out.size (fun k hk e => by have e : k = w.heap.size + 1 := e; omega))⟩
/-- the second, if it may not be opened -/
theorem spec_openX (h : KF w0 k s fc x) (q : Who w0 s p U K a cap gc cc) (p1 : 1 ≤ p) {q0 : Nat} {m W : Int} (hf : FileF x q0 m) (hA : A.size = 7) (hA1 : A[1]? = some (.int .i64 W)) (hA2 : A[2]? = some (.int .i64 0)) (hA3 : A[3]? = some (.int .i64 0)) (hA4 : A[4]? = some (.string ⟨#[102]⟩)) (hW : 1 ≤ W ∧ W ≤ 3)
    (hM : MayIs (x.nd 0) U K a cap 4 true) (hM2 : MayIs (x.nd 1) U K a cap W false) :
    Spec w0 (KOutF w0.heap.size k fc s.tag x.bs (fun s' x' g e _ _ => e = 7 ∧ s' = s ∧ x' = x ∧ g = gc)) 76 #[.pointer (some ⟨k.K, 0, none⟩), .int .i64 p, .agg A] := by
  intro w h0
  have h' := h.keep h0
  have q' := q.keep h0
  have hgc : gc < w0.heap.size := World.block_lt_of_cell? w0 _ q.g
  refine (kopenX_is h' p1 q.p16 hA hA1 hA2 hA3 hW (fun wx hb => (openedF_is (h'.keep hb) (q'.keep hb) hf hA1 hA2 hA4 hM hM2).mono ?_)).mono ?_
  · rintro e w' ⟨rfl, hbw⟩
    exact ⟨rfl, hbw⟩
  · rintro e w' ⟨rfl, hbw⟩
    exact ⟨_, rfl, (ansN3' _ _ _).1, (ansN3' _ _ _).2, (Upd.below hbw), s, x, gc, 7, 0, 0, h'.keep hbw, fun i e => .inl e, fun j e => .inl e, (q'.keep hbw).g, .inl hgc, rfl, ⟨rfl, rfl, rfl, rfl⟩, Upd.below hbw⟩
end
end Go.Proofs.YthioadiiedlmfaaGreatDoor
namespace Go.Proofs.YthioadiiedlmfaaGreatDoor
open Go.RowKit
set_option linter.unusedVariables false
set_option linter.unusedSimpArgs false
theorem stCr_new (w : World) (U K : Int) (a : Option Addr) (cap : Nat) : (stR 53 (.pointer (some ⟨w.heap.size, 0, none⟩)) (.agg (crA U K a cap))).run Tryz.prog (w.alloc (.cells #[.int .i64 0, .int .i64 0, .slice none 0 0, .int .i64 0, .int .i64 0, .int .i64 0] 53)) = .ok () (w.alloc (.cells (crA U K a cap) 53)) := st0_new w rfl (by unfold crA; kernel_rfl) (crA_one _ _ _ _)
/-- the kernel's cells, with another cred of a task -/
def crTo (c : Nat → Value) (o : Nat) (C : Array Value) : Nat → Value := fun j => if o ≤ j ∧ j < o + 6 then (C[j - o]?).getD undef else c j
theorem KR.stC {w : World} {K o : Nat} {c : Nat → Value} (h : KR w K c) (ho : o + 6 ≤ 655) (U K1 : Int) (a : Option Addr) (cap : Nat) :
    (stR 53 (.pointer (some ⟨K, o, none⟩)) (.agg (crA U K1 a cap))).run Tryz.prog w = .ok () (w.setRow K (putA (kerA c) o (crA U K1 a cap).toList)) := Row.st h (by rw [kerA_size]; exact ho) (by unfold crA; kernel_rfl) (crA_one _ _ _ _)
theorem KR.putC {w : World} {K o : Nat} {c : Nat → Value} {C : Array Value} (h : KR w K c) (ho : o + 6 ≤ 655) (hC : C.size = 6) : KR (w.setRow K (putA (kerA c) o C.toList)) K (crTo c o C) := by
  have e : putA (kerA c) o C.toList = kerA (crTo c o C) := by
    apply Array.ext_getElem?
    intro j
    rw [putA_get (by rw [kerA_size]; simp; omega)]
    by_cases hj : j < 655
    · rw [kerA_get _ hj, kerA_get _ hj]
      simp only [Array.length_toList, hC, Array.getElem?_toList, crTo]
      by_cases hr : o ≤ j ∧ j < o + 6
      · rw [if_pos hr, if_pos hr, Array.getElem?_eq_getElem (by omega)]; rfl
      · rw [if_neg hr, if_neg hr]
    · rw [if_neg (by simp [hC]; omega), Array.getElem?_eq_none (by rw [kerA_size]; omega), Array.getElem?_eq_none (by rw [kerA_size]; omega)]
  rw [e]
  exact Row.setRow h _
section
variable {w : World} {k : KC} {s : KSt} {fc : FC} {x : FM} {p : Nat} {U K V : Int} {a : Option Addr} {cap gc cc : Nat} {A : Array Value}
/-- the state behind SetId -/
def IdTo (s : KSt) (p : Nat) (U : Int) (a : Option Addr) (cap : Nat) : KSt := { s with c := crTo s.c (8 + p * 38 + 11) (crA U 0 a cap) }
theorem KF.setid {w' : World} (h : KF w k s fc x) (hp : p ≤ 16) {U : Int} {a : Option Addr} {cap : Nat} (hk : KR w' k.K (crTo s.c (8 + p * 38 + 11) (crA U 0 a cap))) (hu : Upd (fun j => j = k.K) w w') : KF w' k (IdTo s p U a cap) fc x := by
  have hc : ∀ j, (j < 8 + p * 38 + 11 ∨ 8 + p * 38 + 17 ≤ j) → crTo s.c (8 + p * 38 + 11) (crA U 0 a cap) j = s.c j := fun j hj => if_neg (by omega)
  refine ⟨h.kt.cells (cw' := s.cw) (tag' := s.tag) hk hu (fun j hj => hc j (by omega)) (fun _ _ => rfl) (fun j hj => h.kt.tz j (Nat.le_trans hu.size hj)) (fun p' b' hb' => ?_), (hc 2 (by omega)).trans h.c2, h.fs.upd hu (fun j hj e => by have := h.sep j hj; rw [e, h.kt.tK] at this; cases this), h.sep⟩
  obtain ⟨⟨cp, h1⟩, h2, h3, h4⟩ := h.kt.cw p' b' hb'
  exact ⟨⟨cp, (hc _ (by omega)).trans h1⟩, (hu.cell h3 (fun e => by rw [e, h.kt.tK] at h4; exact absurd h4 (by decide))).trans h2, Nat.lt_of_lt_of_le h3 hu.size, h4⟩
attribute [local go_sem ↓] ld_ans st_ans ld_call ld_crd st_crd
attribute [local go_sem] stCr_new
set_option maxRecDepth 100000 in
set_option maxHeartbeats 1000000 in
theorem psetid_is (h : KF w k s fc x) (q : Who w s p U K a cap gc cc) (hA0 : A[0]? = some (.int .i64 26)) (hA1 : A[1]? = some (.int .i64 V)) {U' K' : Int}
    (hB : ∀ w, Calls Tryz.prog 102 #[.agg (crA U K a cap), .int .i64 V] w fun e w' => ∃ a' cap', e = .returned (.tuple #[.agg (crA U' K' a' cap'), .int .i64 0]) ∧ cap' ≤ maxLen ∧ Below w.heap.size w w') :
    Calls Tryz.prog 38 #[.pointer (some ⟨k.K, 0, none⟩), .int .i64 p, .agg A] w fun e w' => ∃ a' cap', cap' ≤ maxLen ∧ e = .returned (.agg (ansV 0 0 0 (.slice none 0 0))) ∧ KR w' k.K (crTo s.c (8 + p * 38 + 11) (crA U' K' a' cap')) ∧ Upd (fun i => i = k.K ∨ w.heap.size ≤ i) w w' := by
  have hb1 := Go.Joins.below_alloc1 w (.cells A 36)
  have hal : Below w.heap.size w ((w.alloc (.cells A 36)).alloc (.cells ansZ 33)) := hb1.trans ((Go.Joins.below_alloc1 _ _).mono hb1.size)
  have hr1 := (row_new w 36 A).alloc (.cells ansZ 33)
  have hr2 := row_new (w.alloc (.cells A 36)) 33 ansZ
  rw [size_alloc1] at hr2
  have d0 : ((w.alloc (.cells A 36)).alloc (.cells ansZ 33)).cell? ⟨w.heap.size, 0, none⟩ = some (.int .i64 26) := (hr1.cell 0).trans hA0
  have HB := Lib.hid hal
  have HR : Hid (Row ((w.alloc (.cells A 36)).alloc (.cells #[.int .i64 0, .int .i64 0, .int .i64 0, .slice none 0 0, .slice none 0 0, .int .i64 0, .int .i64 0, .int .i64 0, .int .i64 0, .int .i64 0, .int .i64 0] 33)) (w.heap.size + 1) 33 ansZ) := Lib.hid hr2
  have HBC := Lib.hid hB
  have HS : Hid (∀ wx, Below ((w.alloc (.cells A 36)).alloc (.cells ansZ 33)).heap.size ((w.alloc (.cells A 36)).alloc (.cells ansZ 33)) wx → (Below ((w.alloc (.cells A 36)).alloc (.cells ansZ 33)).heap.size ((w.alloc (.cells A 36)).alloc (.cells ansZ 33)) wx ∧ (ldR 53 (.pointer (some ⟨k.K, 8 + p * 38 + 11, none⟩))).run Tryz.prog wx = .ok (.agg (crA U K a cap)) wx ∧ wx.cell? ⟨w.heap.size, 1, none⟩ = some (.int .i64 V))) := Lib.hid (fun wx hb => ⟨hb, (h.keep (hal.trans (hb.mono hal.size))).ldcr (q.keep (hal.trans (hb.mono hal.size))), ((hr1.keep hb).cell 1).trans hA1⟩)
  have HH := Lib.hid h
  have HQ := Lib.hid q.p16
  have i17 : (p : Int) < 17 := by have := q.p16; omega
  clear h q hA0 hA1 hB hb1 hal hr1 hr2
  have hz : ansZ = #[.int .i64 0, .int .i64 0, .int .i64 0, .slice none 0 0, .slice none 0 0, .int .i64 0, .int .i64 0, .int .i64 0, .int .i64 0, .int .i64 0, .int .i64 0] := rfl
  rw [hz] at d0 HB HS
  go_enter Tryz.func38, Tryz.ntmps38
  go_upto_region 1 with fail
  generalize (w.alloc (.cells A 36)).alloc (.cells #[.int .i64 0, .int .i64 0, .int .i64 0, .slice none 0 0, .slice none 0 0, .int .i64 0, .int .i64 0, .int .i64 0, .int .i64 0, .int .i64 0, .int .i64 0] 33) = w1 at *
  have HZ3 := Lib.hid (fun (wx : World) (hb : Below (w1.drew.alloc (.cells #[.int .i64 0, .int .i64 0, .slice none 0 0, .int .i64 0, .int .i64 0, .int .i64 0] 53)).heap.size (w1.drew.alloc (.cells #[.int .i64 0, .int .i64 0, .slice none 0 0, .int .i64 0, .int .i64 0, .int .i64 0] 53)) wx) => (show Row wx w1.heap.size 53 (crA 0 0 none 0) from (row_new w1.drew 53 (crA 0 0 none 0)).keep hb))
  go_upto_region 25 with fail
  go_cut [15, 16] (fun s3 s4 wx => s4 = .int .i64 0 ∧ ∃ b9 a' cap', s3 = .pointer (some ⟨b9, 0, none⟩) ∧ cap' ≤ maxLen ∧ w1.heap.size ≤ b9 ∧ Below w1.heap.size w1 wx ∧ Row wx b9 53 (crA U' K' a' cap'))
  case first =>
    go_region_held3 (fun wx => Below w1.heap.size w1 wx ∧ (ldR 53 (.pointer (some ⟨k.K, 8 + p * 38 + 11, none⟩))).run Tryz.prog wx = .ok (.agg (crA U K a cap)) wx ∧ wx.cell? ⟨w.heap.size, 1, none⟩ = some (.int .i64 V)) (first | assumption | (with_reducible exact HS.out _ (Below.refl _ _)) | (with_reducible exact HS.out _ (Below.refl _ _).drew) | (with_reducible exact HS.out _ (below_drewN (And.left ‹_›) _)) | (with_reducible exact HS.out _ (below_setRow (And.left ‹_›) (Nat.le_refl _) _)) | (with_reducible exact HS.out _ (Below.alloc (And.left ‹_›) (Below.size (And.left ‹_›)) _)) | go_keep)
      (first | (go_at_call 102; refine (HBC.out _).mono ?_; rintro e9 w9 ⟨a9, cap9, rfl, hc9, hb9⟩; have hS := HS.out _ ((‹Below w1.heap.size w1 _ ∧ _›).1.trans (hb9.mono (‹Below w1.heap.size w1 _ ∧ _›).1.size)); first | have hst := Row.stCr (U' := U') (K' := K') (a' := a9) (cap' := cap9) (HZ3.out _ hb9) | skip))
    all_goals go_wp2
    all_goals go_meet
    all_goals first
      | exact ⟨rfl, _, _, _, rfl, hc9, hS.1.size, hS.1.alloc hS.1.size _, row_new _ _ _⟩
      | exact ⟨rfl, _, _, _, rfl, hc9, Nat.le_refl _, below_setRow hS.1 (Nat.le_refl _) _, (HZ3.out _ hb9).setRow _⟩
  case rest =>
    obtain ⟨rfl, b9, a9, cap9, rfl, hc9, hbl, hbc, hr9⟩ := hcut
    have l9 := hr9.ldCr
    have hbt := HB.out.trans (hbc.mono HB.out.size)
    have hkr := (HH.out.keep hbt).kt.kr
    have st9 := hkr.stC (o := 8 + p * 38 + 11) (by have := HQ.out; omega) U' K' a9 cap9
    have HKR := Lib.hid (hkr.putC (C := crA U' K' a9 cap9) (o := 8 + p * 38 + 11) (by have := HQ.out; omega) rfl)
    have hu9 : Upd (fun j => j = k.K) wc (wc.setRow k.K (putA (kerA s.c) (8 + p * 38 + 11) (crA U' K' a9 cap9).toList)) := Upd.setRow wc _ rfl
    have HRA := Lib.hid ((HR.out.keep hbc).upd hu9 (by have := HH.out.kt.kr.lt; omega))
    have HUT := Lib.hid ((Upd.below (S := fun i => i = k.K ∨ w.heap.size ≤ i) hbt).trans (hu9.mono fun i _ e => .inl e))
    have HC9 := Lib.hid hc9
    have hKl : k.K < w.heap.size := HH.out.kt.kr.lt
    clear hbl hbc hr9 hbt hkr hu9 hc9 HZ3 HS HBC
    go_upto_region 28 with fail
    generalize wc.setRow k.K (putA (kerA s.c) (8 + p * 38 + 11) (crA U' K' a9 cap9).toList) = w5 at *
    have HFL := Lib.hid (fail_is w5 0)
    obtain ⟨hX, hone⟩ := ansN3' 0 0 0
    have HX := Lib.hid (And.intro hX hone)
    clear hX hone l9 st9
    go_wp2_with (go_at_call 12; refine HFL.out.mono ?_; rintro e4 v4 ⟨rfl, hb4⟩; have hr4 := HRA.out.keep hb4; have hst := ans_st hr4 HX.out.1 HX.out.2; have HLD := Lib.hid (ans_ldV hr4 HX.out.1); have HK4 := Lib.hid (HKR.out.keep hb4); have HU4 := Lib.hid (HUT.out.trans (Upd.below hb4)); clear hb4 hr4; generalize hZ : ansV 0 0 0 (.slice none 0 0) = Z at hst HLD ⊢; have HZ := Lib.hid hZ; clear hZ)
    have hu6 : Upd (fun i => i = w.heap.size + 1) v4 (v4.setRow (w.heap.size + 1) Z) := Upd.setRow v4 _ rfl
    exact bodyPost_ret (v := .agg Z) (by rw [results_cell1 rfl]; simp [asAddr, Result.andThen, HLD.out]) rfl ⟨a9, cap9, HC9.out, by rw [HZ.out], HK4.out.upd hu6 (by omega), HU4.out.trans (hu6.mono fun i _ e => .inr (by have e : i = w.heap.size + 1 := e; omega))⟩
set_option maxRecDepth 100000 in
set_option maxHeartbeats 1000000 in
theorem psetidX_is (h : KF w k s fc x) (q : Who w s p U K a cap gc cc) (hA0 : A[0]? = some (.int .i64 26)) (hA1 : A[1]? = some (.int .i64 V)) {U' K' : Int}
    (hB : ∀ w, Calls Tryz.prog 102 #[.agg (crA U K a cap), .int .i64 V] w fun e w' => ∃ a' cap', e = .returned (.tuple #[.agg (crA U' K' a' cap'), .int .i64 7]) ∧ cap' ≤ maxLen ∧ Below w.heap.size w w') :
    Calls Tryz.prog 38 #[.pointer (some ⟨k.K, 0, none⟩), .int .i64 p, .agg A] w fun e w' => e = .returned (.agg (ansV 7 0 0 (.slice none 0 0))) ∧ Below w.heap.size w w' := by
  have hb1 := Go.Joins.below_alloc1 w (.cells A 36)
  have hal : Below w.heap.size w ((w.alloc (.cells A 36)).alloc (.cells ansZ 33)) := hb1.trans ((Go.Joins.below_alloc1 _ _).mono hb1.size)
  have hr1 := (row_new w 36 A).alloc (.cells ansZ 33)
  have hr2 := row_new (w.alloc (.cells A 36)) 33 ansZ
  rw [size_alloc1] at hr2
  have d0 : ((w.alloc (.cells A 36)).alloc (.cells ansZ 33)).cell? ⟨w.heap.size, 0, none⟩ = some (.int .i64 26) := (hr1.cell 0).trans hA0
  have HB := Lib.hid hal
  have HR : Hid (Row ((w.alloc (.cells A 36)).alloc (.cells #[.int .i64 0, .int .i64 0, .int .i64 0, .slice none 0 0, .slice none 0 0, .int .i64 0, .int .i64 0, .int .i64 0, .int .i64 0, .int .i64 0, .int .i64 0] 33)) (w.heap.size + 1) 33 ansZ) := Lib.hid hr2
  have HBC := Lib.hid hB
  have HS : Hid (∀ wx, Below ((w.alloc (.cells A 36)).alloc (.cells ansZ 33)).heap.size ((w.alloc (.cells A 36)).alloc (.cells ansZ 33)) wx → (Below ((w.alloc (.cells A 36)).alloc (.cells ansZ 33)).heap.size ((w.alloc (.cells A 36)).alloc (.cells ansZ 33)) wx ∧ (ldR 53 (.pointer (some ⟨k.K, 8 + p * 38 + 11, none⟩))).run Tryz.prog wx = .ok (.agg (crA U K a cap)) wx ∧ wx.cell? ⟨w.heap.size, 1, none⟩ = some (.int .i64 V))) := Lib.hid (fun wx hb => ⟨hb, (h.keep (hal.trans (hb.mono hal.size))).ldcr (q.keep (hal.trans (hb.mono hal.size))), ((hr1.keep hb).cell 1).trans hA1⟩)
  have HH := Lib.hid h
  have HQ := Lib.hid q.p16
  have i17 : (p : Int) < 17 := by have := q.p16; omega
  clear h q hA0 hA1 hB hb1 hal hr1 hr2
  have hz : ansZ = #[.int .i64 0, .int .i64 0, .int .i64 0, .slice none 0 0, .slice none 0 0, .int .i64 0, .int .i64 0, .int .i64 0, .int .i64 0, .int .i64 0, .int .i64 0] := rfl
  rw [hz] at d0 HB HS
  go_enter Tryz.func38, Tryz.ntmps38
  go_upto_region 1 with fail
  generalize (w.alloc (.cells A 36)).alloc (.cells #[.int .i64 0, .int .i64 0, .int .i64 0, .slice none 0 0, .slice none 0 0, .int .i64 0, .int .i64 0, .int .i64 0, .int .i64 0, .int .i64 0, .int .i64 0] 33) = w1 at *
  have HZ3 := Lib.hid (fun (wx : World) (hb : Below (w1.drew.alloc (.cells #[.int .i64 0, .int .i64 0, .slice none 0 0, .int .i64 0, .int .i64 0, .int .i64 0] 53)).heap.size (w1.drew.alloc (.cells #[.int .i64 0, .int .i64 0, .slice none 0 0, .int .i64 0, .int .i64 0, .int .i64 0] 53)) wx) => (show Row wx w1.heap.size 53 (crA 0 0 none 0) from (row_new w1.drew 53 (crA 0 0 none 0)).keep hb))
  go_upto_region 25 with fail
  go_cut [15, 16] (fun s3 s4 wx => s4 = .int .i64 7 ∧ ∃ b9 a' cap', s3 = .pointer (some ⟨b9, 0, none⟩) ∧ cap' ≤ maxLen ∧ w1.heap.size ≤ b9 ∧ Below w1.heap.size w1 wx ∧ Row wx b9 53 (crA U' K' a' cap'))
  case first =>
    go_region_held3 (fun wx => Below w1.heap.size w1 wx ∧ (ldR 53 (.pointer (some ⟨k.K, 8 + p * 38 + 11, none⟩))).run Tryz.prog wx = .ok (.agg (crA U K a cap)) wx ∧ wx.cell? ⟨w.heap.size, 1, none⟩ = some (.int .i64 V)) (first | assumption | (with_reducible exact HS.out _ (Below.refl _ _)) | (with_reducible exact HS.out _ (Below.refl _ _).drew) | (with_reducible exact HS.out _ (below_drewN (And.left ‹_›) _)) | (with_reducible exact HS.out _ (below_setRow (And.left ‹_›) (Nat.le_refl _) _)) | (with_reducible exact HS.out _ (Below.alloc (And.left ‹_›) (Below.size (And.left ‹_›)) _)) | go_keep)
      (first | (go_at_call 102; refine (HBC.out _).mono ?_; rintro e9 w9 ⟨a9, cap9, rfl, hc9, hb9⟩; have hS := HS.out _ ((‹Below w1.heap.size w1 _ ∧ _›).1.trans (hb9.mono (‹Below w1.heap.size w1 _ ∧ _›).1.size)); first | have hst := Row.stCr (U' := U') (K' := K') (a' := a9) (cap' := cap9) (HZ3.out _ hb9) | skip))
    all_goals go_wp2
    all_goals go_meet
    all_goals first
      | exact ⟨rfl, _, _, _, rfl, hc9, hS.1.size, hS.1.alloc hS.1.size _, row_new _ _ _⟩
      | exact ⟨rfl, _, _, _, rfl, hc9, Nat.le_refl _, below_setRow hS.1 (Nat.le_refl _) _, (HZ3.out _ hb9).setRow _⟩
  case rest =>
    obtain ⟨rfl, b9, a9, cap9, rfl, hc9, hbl, hbc, hr9⟩ := hcut
    have HBT := Lib.hid (HB.out.trans (hbc.mono HB.out.size))
    have HRA := Lib.hid (HR.out.keep hbc)
    clear hbl hbc hr9 hc9 HZ3 HS HBC
    have HFL := Lib.hid (fail_is wc 7)
    obtain ⟨hX, hone⟩ := ansN3' 7 0 0
    have HX := Lib.hid (And.intro hX hone)
    clear hX hone
    go_wp2_with (go_at_call 12; refine HFL.out.mono ?_; rintro e4 v4 ⟨rfl, hb4⟩; have hr4 := HRA.out.keep hb4; have hst := ans_st hr4 HX.out.1 HX.out.2; have HLD := Lib.hid (ans_ldV hr4 HX.out.1); have HB4 := Lib.hid (HBT.out.trans (hb4.mono HBT.out.size)); clear hb4 hr4; generalize hZ : ansV 7 0 0 (.slice none 0 0) = Z at hst HLD ⊢; have HZ := Lib.hid hZ; clear hZ)
    have hu6 : Upd (fun i => i = w.heap.size + 1) v4 (v4.setRow (w.heap.size + 1) Z) := Upd.setRow v4 _ rfl
    exact bodyPost_ret (v := .agg Z) (by rw [results_cell1 rfl]; simp [asAddr, Result.andThen, HLD.out]) rfl ⟨by rw [HZ.out], HB4.out.trans (hu6.toBelow HB4.out.size (fun k hk e => by have e : k = w.heap.size + 1 := e; omega))⟩
variable {w0 : World}
/-- SetId by who may -/
theorem spec_setid (h : KF w0 k s fc x) (q : Who w0 s p 0 127 a cap gc cc) (hA0 : A[0]? = some (.int .i64 26)) (hA1 : A[1]? = some (.int .i64 V)) (h1 : 1 ≤ V) (h2 : V ≤ 99) (hgK : gc ≠ k.K) :
    Spec w0 (KOutF w0.heap.size k fc s.tag x.bs (fun s' x' g e _ _ => e = 0 ∧ ∃ a' cap', cap' ≤ maxLen ∧ s' = IdTo s p V a' cap' ∧ x' = x ∧ g = gc)) 38 #[.pointer (some ⟨k.K, 0, none⟩), .int .i64 p, .agg A] := by
  intro w h0
  have h' := h.keep h0
  have q' := q.keep h0
  have hz := h0.size
  have hgc : gc < w0.heap.size := World.block_lt_of_cell? w0 _ q.g
  refine (psetid_is h' q' hA0 hA1 (fun w => become_is w h1 h2 a cap q.hc)).mono ?_
  rintro e w' ⟨a', cap', hc, rfl, hk, hu⟩
  have hKl : k.K < w0.heap.size := h.kt.kr.lt
  have hg : w'.cell? ⟨gc, 0, none⟩ = some (.int .i64 1) := (hu.cell (Nat.lt_of_lt_of_le hgc hz) (fun e => by rcases e with e | e; exact hgK e; omega)).trans q'.g
  have hh : KF w' k (IdTo s p V a' cap') fc x := by
    have hc : ∀ j, (j < 8 + p * 38 + 11 ∨ 8 + p * 38 + 17 ≤ j) → crTo s.c (8 + p * 38 + 11) (crA V 0 a' cap') j = s.c j := fun j hj => if_neg (by omega)
    have lt : ∀ j, s.tag j ≠ 0 → j < w0.heap.size := fun j e => h.kt.lt e
    have n : ∀ {j i}, s.tag j = i → i ≠ 0 → i ≠ 1 → ¬ (j = k.K ∨ w.heap.size ≤ j) := fun {j i} e h0 h1 q => by
      rcases q with q | q
      · exact h1 (e.symm.trans (q ▸ h.kt.tK))
      · have := lt j (by rw [e]; exact h0); omega
    have t := h'.kt
    refine ⟨⟨hk, (hc 1 (by omega)).trans t.c1, (hc 4 (by omega)).trans t.c4, (hc 5 (by omega)).trans t.c5, (hc 6 (by omega)).trans t.c6, (hc 7 (by omega)).trans t.c7, t.wh.upd hu (n t.tWh (by decide) (by decide)), t.fi.upd hu (n t.tFi (by decide) (by decide)), t.pr.upd hu (n t.tPr (by decide) (by decide)), t.ru.upd hu (n (t.tR _ (.inl rfl)) (by decide) (by decide)) (fun a e => n (t.tR _ (.inr ⟨a, e, rfl⟩)) (by decide) (by decide)), t.me.upd hu (fun j hj => n (t.tM j hj) (by decide) (by decide)), fun p' b' hb' => ?_, t.tK, t.tWh, t.tFi, t.tPr, t.tR, t.tM, fun j hj => t.tz j (Nat.le_trans hu.size hj)⟩, (hc 2 (by omega)).trans h.c2, h'.fs.upd hu (fun j hj e => ?_), h.sep⟩
    · obtain ⟨⟨cp, y1⟩, y2, y3, y4⟩ := t.cw p' b' hb'
      exact ⟨⟨cp, (hc _ (by omega)).trans y1⟩, (hu.cell y3 (n y4 (by decide) (by decide))).trans y2, Nat.lt_of_lt_of_le y3 hu.size, y4⟩
    · rcases e with e | e
      · have := h.sep j hj; rw [e, h.kt.tK] at this; cases this
      · have := h.fs.lt j hj; omega
  refine ⟨_, rfl, (ansN3' _ _ _).1, (ansN3' _ _ _).2, hu.mono fun i hi e => ?_, IdTo s p V a' cap', x, gc, 0, 0, 0, hh, fun i e => .inl e, fun j e => .inl e, hg, .inl hgc, rfl, ⟨rfl, a', cap', hc, rfl, rfl, rfl⟩, hu.mono fun i _ e => ?_⟩
  · rcases e with e | e <;> omega
  · rcases e with rfl | e
    · left; rw [h.kt.tK]; decide
    · exact .inr (.inr e)
/-- SetId by who may not -/
theorem spec_setidX (h : KF w0 k s fc x) (q : Who w0 s p U 0 a cap gc cc) (hA0 : A[0]? = some (.int .i64 26)) (hA1 : A[1]? = some (.int .i64 0)) (h1 : 1 ≤ U) (h2 : U ≤ 99) :
    Spec w0 (KOutF w0.heap.size k fc s.tag x.bs (fun s' x' g e _ _ => e = 7)) 38 #[.pointer (some ⟨k.K, 0, none⟩), .int .i64 p, .agg A] := by
  intro w h0
  have h' := h.keep h0
  have q' := q.keep h0
  have hgc : gc < w0.heap.size := World.block_lt_of_cell? w0 _ q.g
  refine (psetidX_is h' q' hA0 hA1 (U' := 0) (K' := 0) (fun w => (becomeN_is w h1 h2 a cap q.hc).mono ?_)).mono ?_
  · rintro e w' ⟨rfl, hb⟩
    exact ⟨none, 0, rfl, Nat.zero_le _, hb⟩
  · rintro e w' ⟨rfl, hbw⟩
    exact ⟨_, rfl, (ansN3' _ _ _).1, (ansN3' _ _ _).2, (Upd.below hbw), s, x, gc, 7, 0, 0, h'.keep hbw, fun i e => .inl e, fun j e => .inl e, (q'.keep hbw).g, .inl hgc, rfl, rfl, Upd.below hbw⟩
end
end Go.Proofs.YthioadiiedlmfaaGreatDoor
