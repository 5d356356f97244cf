/- What kernel.open comes to: the three calls of the law of rights. -/
import Derived.Test.YtcdjkheelbikjaaGreatDoorSlA
namespace Go.Proofs.YtcdjkheelbikjaaGreatDoor
open Go.RowKit
set_option linter.unusedVariables false
set_option linter.unusedSimpArgs false
/-- it may be done -/
def MayIs (n : Nd) (U K : Int) (a : Option Addr) (cap : Nat) (W : Int) (ok : Bool) : Prop := ∀ w, Calls Tryz.prog 175 #[.agg (stA n), .agg (crA U K a cap), .int .i64 W] w fun e w' => e = .returned (.tuple #[.bool ok, .int .i64 0]) ∧ Below w.heap.size w w'
theorem may_root {n : Nd} (hk : n.k = 2) (hm : n.m = 493) (hu : n.u = 0) (hg : n.g = 0) (a : Option Addr) (cap : Nat) (hc : cap ≤ maxLen) {W : Int} (hW : W = 4 ∨ W = 2) : MayIs n 0 127 a cap W true := by
  intro w
  have hb := fun w => bitsE_is w n (M := 493) (by rw [hm]; rfl) (K := 127) a cap
  rw [hu] at hb
  have hz : (W = 1 ∧ (if W = 4 then (1 : Int) else 2) = 4) ∨ (W = 2 ∧ (if W = 4 then (1 : Int) else 2) = 2) ∨ (W = 4 ∧ (if W = 4 then (1 : Int) else 2) = 1) := by
    rcases hW with rfl | rfl
    · exact .inr (.inr ⟨rfl, rfl⟩)
    · exact .inr (.inl ⟨rfl, rfl⟩)
  have h := may_is w n (by rw [hm]; decide) (by rw [hu]; decide) (by rw [hg]; decide) (U := 0) (K := 127) (by decide) (.inr rfl) a cap hc hb hz
  have e : (bits .andNot .i64 (if W = 4 then (1 : Int) else 2) (bits .or .i64 ((493 / 64 : Nat) : Int) (if (127 : Int) = 0 then 0 else if n.k = 2 then 7 else 6)) == 0) = true := by
    rw [hk]
    rcases hW with rfl | rfl <;> decide
  rw [e] at h
  exact h
theorem may_rootN {n : Nd} (hk : n.k = 2) (hm : n.m = 493) (hu : n.u = 0) (hg : n.g = 0) {U : Int} (hU : 1 ≤ U ∧ U ≤ 99) (a : Option Addr) (cap : Nat) (hc : cap ≤ maxLen) : MayIs n U 0 a cap 4 true := by
  intro w
  have hb := fun w => bitsN_is w n (M := 493) (by rw [hm]; rfl) (by decide) hg (U := U) (K := 0) (by rw [hu]; omega) (by omega) (by decide) a cap hc
  have h := may_is w n (by rw [hm]; decide) (by rw [hu]; decide) (by rw [hg]; decide) (U := U) (K := 0) (by omega) (.inl rfl) a cap hc hb (W := 4) (z := 1) (.inr (.inr ⟨rfl, rfl⟩))
  have e : (bits .andNot .i64 (1 : Int) (bits .or .i64 ((493 / 8 % 8 : Nat) : Int) (if (0 : Int) = 0 then 0 else if n.k = 2 then 7 else 6)) == 0) = true := by
    rw [if_pos rfl]
    decide
  rw [e] at h
  exact h
/-- whether the mode lets one of the group do it -/
def okF (M : Nat) (wr : Bool) : Bool := bits .andNot .i64 (bif wr then 2 else 4) (bits .or .i64 ((M / 8 % 8 : Nat) : Int) 0) == 0
theorem may_fileN {n : Nd} {M : Nat} (hm : n.m = M) (hM : M ≤ 511) (hu : n.u = 0) (hg : n.g = 0) {U : Int} (hU : 1 ≤ U ∧ U ≤ 99) (a : Option Addr) (cap : Nat) (hc : cap ≤ maxLen) (wr : Bool) : MayIs n U 0 a cap (bif wr then 2 else 1) (okF M wr) := by
  intro w
  have hb := fun w => bitsN_is w n (M := M) hm hM hg (U := U) (K := 0) (by rw [hu]; omega) (by omega) (by decide) a cap hc
  have h := may_is w n (by rw [hm]; omega) (by rw [hu]; decide) (by rw [hg]; decide) (U := U) (K := 0) (by omega) (.inl rfl) a cap hc hb (W := bif wr then 2 else 1) (z := bif wr then 2 else 4) (by cases wr; exact .inl ⟨rfl, rfl⟩; exact .inr (.inl ⟨rfl, rfl⟩))
  rw [if_pos rfl] at h
  exact h
section
variable {w0 w : World} {k : KC} {s : KSt} {fc : FC} {x : FM} {p : Nat} {U K : Int} {a : Option Addr} {cap gc cc : Nat} {A : Array Value}
/-- the first: "f" is made, and open -/
theorem spec_openN (h : KF w0 k s fc x) (q : Who w0 s p 0 127 a cap gc cc) (p1 : 1 ≤ p) {q0 : Nat} (hr : Root0 x q0) (hna : x.na ≤ 2) {m : Int} (hm : 0 ≤ m ∧ m ≤ 511) (hA : A.size = 7) (hA1 : A[1]? = some (.int .i64 3)) (hA2 : A[2]? = some (.int .i64 1)) (hA3 : A[3]? = some (.int .i64 m)) (hA4 : A[4]? = some (.string ⟨#[102]⟩))
    (hh : x.nh < 1000 ∧ hcn (x.held 2) < 1000) (hf1 : ∃ j, j < 8 ∧ s.fd (p * 8 + j) = 0) (hf2 : ∃ k0, k0 < 32 ∧ (s.fs k0).n = 0) (hg1 : ¬ x.bs gc) (hg2 : gc ≠ k.Fi) :
    Spec w0 (KOutF w0.heap.size k fc s.tag x.bs (fun s' x' g e av _ => e = 0 ∧ ∃ j k0 : Nat, j < 8 ∧ k0 < 32 ∧ s' = OpenTo s p 3 j k0 ∧ FileF x' q0 m ∧ x'.nh = x.nh + 1 ∧ x'.held 2 = some (hcn (x.held 2)) ∧ g = gc ∧ av = j)) 84 #[.pointer (some ⟨k.K, 0, none⟩), .int .i64 p, .agg A] := by
  intro w h0
  have h' := h.keep h0
  have q' := q.keep h0
  have hzz : ∀ j, x.bs j → j < w0.heap.size := h.fs.lt
  have hz := h0.size
  have hgc : gc < w0.heap.size := World.block_lt_of_cell? w0 _ q.g
  have hFi : k.Fi < w0.heap.size := h.kt.lt (by rw [h.kt.tFi]; decide)
  refine (kopenA_is h' p1 q.p16 hA hA1 hA2 hA3 (by decide) (.inr rfl) hm (P := fun x' => FileF x' q0 m ∧ x'.held = x.held ∧ x'.nh = x.nh) (fun wx hb => (openedN_is (h'.keep hb) (q'.keep hb) hr hna hm hA2 hA3 hA4 (may_root hr.k hr.m hr.u hr.g a cap q.hc (.inl rfl)) (may_root hr.k hr.m hr.u hr.g a cap q.hc (.inr rfl))).mono ?_) (fun x' hx' => ?_) hf1 hf2).mono ?_
  · rintro e w' ⟨rfl, x', hk, hf, e1, e2, hu, hs⟩
    exact ⟨rfl, x', hk, ⟨hf, e1, e2⟩, hu, hs⟩
  · obtain ⟨pv, e⟩ := hx'.1.n1
    exact ⟨by rw [e]; exact (by decide : ¬ (1 : Int) = 0), by rw [hx'.2.2]; exact hh.1, by rw [hx'.2.1]; exact hh.2⟩
  · rintro e w' ⟨j, k0, x2, hj, hk0, ⟨hf, e1, e2⟩, hk, rfl, hu, hs⟩
    have hgg : ¬ (gc = k.Fi ∨ x.bs gc ∨ w.heap.size ≤ gc) := by
      rintro (e | e | e)
      · exact hg2 e
      · exact hg1 e
      · omega
    refine ⟨_, rfl, (ansN3' _ _ _).1, (ansN3' _ _ _).2, hu.mono fun i hi e => ?_, OpenTo s p 3 j k0, heldTo x2, gc, 0, j, 0, hk, fun i e => .inl e, hs, (hu.cell (Nat.lt_of_lt_of_le hgc hz) hgg).trans q'.g, .inl hgc, rfl, ⟨rfl, j, k0, hj, hk0, rfl, ?_, ?_, ?_, rfl, rfl⟩, hu.mono fun i _ e => ?_⟩
    · rcases e with rfl | e | e
      · exact hFi
      · exact hzz i e
      · omega
    · exact ⟨hf.k, hf.m0, hf.u, hf.g, hf.ps, hf.sz, hf.q0, hf.q1, hf.sec, hf.n1, ⟨hf.x.nz, hf.x.G, hf.x.free, hf.x.na, hf.x.l0, hf.x.Gq⟩⟩
    · show x2.nh + 1 = _
      rw [e2]
    · show (if (2 : Int) = 2 then some (hcn (x2.held 2)) else x2.held 2) = _
      rw [if_pos rfl, e1]
    · rcases e with rfl | e | e
      · left; rw [h.kt.tFi]; decide
      · exact .inr (.inl e)
      · exact .inr (.inr e)
/-- the second: "f" is there, and it may be opened -/
theorem spec_openF (h : KF w0 k s fc x) (q : Who w0 s p U K a cap gc cc) (p1 : 1 ≤ p) {q0 : Nat} {m W : Int} (hf : FileF x q0 m) (hA : A.size = 7) (hA1 : A[1]? = some (.int .i64 W)) (hA2 : A[2]? = some (.int .i64 0)) (hA3 : A[3]? = some (.int .i64 0)) (hA4 : A[4]? = some (.string ⟨#[102]⟩)) (hW : 1 ≤ W ∧ W ≤ 3)
    (hM : MayIs (x.nd 0) U K a cap 4 true) (hM2 : MayIs (x.nd 1) U K a cap W true)
    (hh : x.nh < 1000 ∧ hcn (x.held 2) < 1000) (hf1 : ∃ j, j < 8 ∧ s.fd (p * 8 + j) = 0) (hf2 : ∃ k0, k0 < 32 ∧ (s.fs k0).n = 0) (hg1 : ¬ x.bs gc) (hg2 : gc ≠ k.Fi) :
    Spec w0 (KOutF w0.heap.size k fc s.tag x.bs (fun s' x' g e av _ => e = 0 ∧ ∃ j k0 : Nat, j < 8 ∧ k0 < 32 ∧ s' = OpenTo s p W j k0 ∧ x' = heldTo x ∧ g = gc ∧ av = j)) 84 #[.pointer (some ⟨k.K, 0, none⟩), .int .i64 p, .agg A] := by
  intro w h0
  have h' := h.keep h0
  have q' := q.keep h0
  have hzz : ∀ j, x.bs j → j < w0.heap.size := h.fs.lt
  have hz := h0.size
  have hgc : gc < w0.heap.size := World.block_lt_of_cell? w0 _ q.g
  have hFi : k.Fi < w0.heap.size := h.kt.lt (by rw [h.kt.tFi]; decide)
  refine (kopenA_is h' p1 q.p16 hA hA1 hA2 hA3 hW (.inl rfl) (by decide) (P := fun x' => x' = x) (fun wx hb => (openedF_is (h'.keep hb) (q'.keep hb) hf hA1 hA2 hA4 hM hM2).mono ?_) (fun x' hx' => ?_) hf1 hf2).mono ?_
  · rintro e w' ⟨rfl, hbw⟩
    exact ⟨rfl, x, (h'.keep hb).keep hbw, rfl, Upd.below hbw, fun j e => .inl e⟩
  · subst hx'
    obtain ⟨pv, e⟩ := hf.n1
    exact ⟨by rw [e]; exact (by decide : ¬ (1 : Int) = 0), hh.1, hh.2⟩
  · rintro e w' ⟨j, k0, x2, hj, hk0, rfl, hk, rfl, hu, hs⟩
    have hgg : ¬ (gc = k.Fi ∨ x2.bs gc ∨ w.heap.size ≤ gc) := by
      rintro (e | e | e)
      · exact hg2 e
      · exact hg1 e
      · omega
    refine ⟨_, rfl, (ansN3' _ _ _).1, (ansN3' _ _ _).2, hu.mono fun i hi e => ?_, OpenTo s p W j k0, heldTo x2, gc, 0, j, 0, hk, fun i e => .inl e, hs, (hu.cell (Nat.lt_of_lt_of_le hgc hz) hgg).trans q'.g, .inl hgc, rfl, ⟨rfl, j, k0, hj, hk0, rfl, rfl, rfl, rfl⟩, hu.mono fun i _ e => ?_⟩
    · rcases e with rfl | e | e
      · exact hFi
      · exact hzz i e
      · omega
    · rcases e with rfl | e | e
      · left; rw [h.kt.tFi]; decide
      · exact .inr (.inl e)
      · exact .inr (.inr e)
attribute [local go_sem ↓] ld_ans st_ans ld_call bd_ans
set_option maxRecDepth 100000 in
set_option maxHeartbeats 1000000 in
theorem kopenX_is (h : KF w k s fc x) (p1 : 1 ≤ p) (p16 : p ≤ 16) {A : Array Value} (hA : A.size = 7) {W : Int} (hA1 : A[1]? = some (.int .i64 W)) (hA2 : A[2]? = some (.int .i64 0)) (hA3 : A[3]? = some (.int .i64 0)) (hW : 1 ≤ W ∧ W ≤ 3)
    (hO : ∀ wx, Below w.heap.size w wx → Calls Tryz.prog 158 #[.pointer (some ⟨k.K, 0, none⟩), .int .i64 p, .agg A] wx fun e w' => e = .returned (.tuple #[.int .i64 0, .int .i64 7]) ∧ Below wx.heap.size wx w') :
    Calls Tryz.prog 84 #[.pointer (some ⟨k.K, 0, none⟩), .int .i64 p, .agg A] w fun e w' => e = .returned (.agg (ansV 7 0 0 (.slice none 0 0))) ∧ Below w.heap.size w w' := by
  have hb1 := Go.Joins.below_alloc1 w (.cells A 40)
  have hal : Below w.heap.size w ((w.alloc (.cells A 40)).alloc (.cells ansZ 37)) := hb1.trans ((Go.Joins.below_alloc1 _ _).mono hb1.size)
  have hr1 := (row_new w 40 A).alloc (.cells ansZ 37)
  have hr2 := row_new (w.alloc (.cells A 40)) 37 ansZ
  rw [size_alloc1] at hr2
  have d1 : ((w.alloc (.cells A 40)).alloc (.cells ansZ 37)).cell? ⟨w.heap.size, 1, none⟩ = some (.int .i64 W) := (hr1.cell 1).trans hA1
  have d2 : ((w.alloc (.cells A 40)).alloc (.cells ansZ 37)).cell? ⟨w.heap.size, 2, none⟩ = some (.int .i64 0) := (hr1.cell 2).trans hA2
  have d3 : ((w.alloc (.cells A 40)).alloc (.cells ansZ 37)).cell? ⟨w.heap.size, 3, none⟩ = some (.int .i64 0) := (hr1.cell 3).trans hA3
  have l2 := tld_callR hr1 hA
  have HO := Lib.hid (hO _ hal)
  have HB := Lib.hid hal
  have HR : Hid (Row ((w.alloc (.cells A 40)).alloc (.cells #[.int .i64 0, .int .i64 0, .int .i64 0, .slice none 0 0, .slice none 0 0, .int .i64 0, .int .i64 0, .int .i64 0, .int .i64 0, .int .i64 0, .int .i64 0] 37)) (w.heap.size + 1) 37 ansZ) := Lib.hid hr2
  have w1 : ¬ W < 1 := by omega
  have w2 : ¬ 3 < W := by omega
  clear h p1 p16 hA hA1 hA2 hA3 hO hb1 hal hr1 hr2 hW
  have hz : ansZ = #[.int .i64 0, .int .i64 0, .int .i64 0, .slice none 0 0, .slice none 0 0, .int .i64 0, .int .i64 0, .int .i64 0, .int .i64 0, .int .i64 0, .int .i64 0] := rfl
  rw [hz] at d1 d2 d3 l2 HB HO
  go_enter Tryz.func84, Tryz.ntmps84
  go_upto_region 1 with fail
  generalize (w.alloc (.cells A 40)).alloc (.cells #[.int .i64 0, .int .i64 0, .int .i64 0, .slice none 0 0, .slice none 0 0, .int .i64 0, .int .i64 0, .int .i64 0, .int .i64 0, .int .i64 0, .int .i64 0] 37) = v1 at *
  go_upto_region 5 with (go_at_call 158; (with_reducible refine HO.out.mono ?_); rintro e2 v2 ⟨rfl, hb2⟩)
  have HFL := Lib.hid (fail_is v2 7)
  have HB2 := Lib.hid (HB.out.trans (hb2.mono HB.out.size))
  have HR2 := Lib.hid (HR.out.keep hb2)
  clear hb2 d1 d2 d3 l2 HO
  obtain ⟨hX, hone⟩ := ansN3' 7 0 0
  have HX := Lib.hid (And.intro hX hone)
  clear hX hone
  go_wp2_with (go_at_call 20; refine HFL.out.mono ?_; rintro e4 v4 ⟨rfl, hb4⟩; have hr4 := HR2.out.keep hb4; have hst := ans_st hr4 HX.out.1 HX.out.2; have HLD := Lib.hid (ans_ldV hr4 HX.out.1); have HB4 := Lib.hid (HB2.out.trans (hb4.mono HB2.out.size)); clear hb4 hr4; generalize hZ : ansV 7 0 0 (.slice none 0 0) = Z at hst HLD ⊢; have HZ := Lib.hid hZ; clear hZ)
  exact bodyPost_ret (v := .agg Z) (by rw [results_cell1 rfl]; simp [asAddr, Result.andThen, HLD.out]) rfl ⟨by rw [HZ.out], HB4.out.trans ((Upd.setRow (S := fun j => j = w.heap.size + 1) v4 Z rfl).toBelow HB4.out.size (fun k hk e => by have e : k = w.heap.size + 1 := e; omega))⟩
/-- the second, if it may not be opened -/
theorem spec_openX (h : KF w0 k s fc x) (q : Who w0 s p U K a cap gc cc) (p1 : 1 ≤ p) {q0 : Nat} {m W : Int} (hf : FileF x q0 m) (hA : A.size = 7) (hA1 : A[1]? = some (.int .i64 W)) (hA2 : A[2]? = some (.int .i64 0)) (hA3 : A[3]? = some (.int .i64 0)) (hA4 : A[4]? = some (.string ⟨#[102]⟩)) (hW : 1 ≤ W ∧ W ≤ 3)
    (hM : MayIs (x.nd 0) U K a cap 4 true) (hM2 : MayIs (x.nd 1) U K a cap W false) :
    Spec w0 (KOutF w0.heap.size k fc s.tag x.bs (fun s' x' g e _ _ => e = 7 ∧ s' = s ∧ x' = x ∧ g = gc)) 84 #[.pointer (some ⟨k.K, 0, none⟩), .int .i64 p, .agg A] := by
  intro w h0
  have h' := h.keep h0
  have q' := q.keep h0
  have hgc : gc < w0.heap.size := World.block_lt_of_cell? w0 _ q.g
  refine (kopenX_is h' p1 q.p16 hA hA1 hA2 hA3 hW (fun wx hb => (openedF_is (h'.keep hb) (q'.keep hb) hf hA1 hA2 hA4 hM hM2).mono ?_)).mono ?_
  · rintro e w' ⟨rfl, hbw⟩
    exact ⟨rfl, hbw⟩
  · rintro e w' ⟨rfl, hbw⟩
    exact ⟨_, rfl, (ansN3' _ _ _).1, (ansN3' _ _ _).2, (Upd.below hbw), s, x, gc, 7, 0, 0, h'.keep hbw, fun i e => .inl e, fun j e => .inl e, (q'.keep hbw).g, .inl hgc, rfl, ⟨rfl, rfl, rfl, rfl⟩, Upd.below hbw⟩
end
end Go.Proofs.YtcdjkheelbikjaaGreatDoor
