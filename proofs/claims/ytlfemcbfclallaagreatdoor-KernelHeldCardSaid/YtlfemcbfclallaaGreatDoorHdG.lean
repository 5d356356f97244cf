/- What an answer with bytes may be, and how the kernel and its file system stand behind it. The kernel's change and named at Unlink of "f". The kernel's named at Stat of a name that is gone. -/
import Derived.Test.YtlfemcbfclallaaGreatDoorKfG
import Derived.Test.YtlfemcbfclallaaGreatDoorLsB
namespace Go.Proofs.YtlfemcbfclallaaGreatDoor
open Go.RowKit
set_option linter.unusedVariables false
set_option linter.unusedSimpArgs false
def KOutD (B0 : Nat) (k : KC) (fc : FC) (tag0 : Nat → Nat) (bs0 : Nat → Prop) (T : KSt → FM → Int → Int → Int → List Int → Prop) (w : World) (X : Array Value) (w' : World) : Prop :=
  ∃ s x e a b d l, KF w' k s fc x ∧ FarT tag0 w.heap.size s.tag ∧ (∀ j, x.bs j → bs0 j ∨ w.heap.size ≤ j) ∧ X = ansV e a b d ∧ OB w.heap.size w' d l ∧ (∀ j, d.ownBlock = some j → s.tag j = 0 ∧ ¬ x.bs j) ∧ T s x e a b l ∧ Upd (fun j => tag0 j ≠ 0 ∨ bs0 j ∨ w.heap.size ≤ j) w w'
theorem koutD_ok {w0 : World} {k : KC} {fc : FC} {tag0 : Nat → Nat} {bs0 : Nat → Prop} (hz : ∀ j, w0.heap.size ≤ j → tag0 j = 0) (hb : ∀ j, bs0 j → j < w0.heap.size) (T : KSt → FM → Int → Int → Int → List Int → Prop) : OutOk w0 (KOutD w0.heap.size k fc tag0 bs0 T) := by
  refine ⟨?_, ?_, ?_⟩
  · rintro w w1 w2 b C X h0 h1 ⟨s, x, e, a, r, d, l, hs, hf, hx, hX, ho, hd, hT, hU⟩ hb0 hb1
    have z0 := h0.size
    have z1 := h1.size
    have u : Upd (fun k => k = b) w2 (w2.setRow b C) := Upd.setRow w2 C rfl
    refine ⟨s, x, e, a, r, d, l, hs.upd u (fun j hj q => ?_) (fun j hj q => ?_), fun j hj => ?_, fun j hj => ?_, hX, (ho.upd u (fun g hg q => ?_)).base z1, hd, hT, ((Upd.below h1).trans (hU.mono fun i _ e => ?_)).trans' u (fun i hi e => by omega)⟩
    · have q : j = b := q
      rcases hf j hj with e | e
      · exact e (hz j (by omega))
      · omega
    · have q : j = b := q
      rcases hx j hj with e | e
      · have := hb j e; omega
      · omega
    · exact (hf j hj).imp_right fun e => by omega
    · exact (hx j hj).imp_right fun e => by omega
    · have q : g = b := q
      have := (ho.lt g hg).1
      omega
    · exact e.imp_right fun e => e.imp_right fun e => by omega
  · rintro w w1 w2 X h0 h1 ⟨s, x, e, a, r, d, l, hs, hf, hx, hX, ho, hd, hT, hU⟩
    have z1 := h1.size
    exact ⟨s, x, e, a, r, d, l, hs, fun j hj => (hf j hj).imp_right fun e => by omega, fun j hj => (hx j hj).imp_right fun e => by omega, hX, ho.base z1, hd, hT, (Upd.below h1).trans (hU.mono fun i _ e => e.imp_right fun e => e.imp_right fun e => by omega)⟩
  · rintro w X w2 w3 ⟨s, x, e, a, r, d, l, hs, hf, hx, hX, ho, hd, hT, hU⟩ hb
    exact ⟨s, x, e, a, r, d, l, hs.keep hb, hf, hx, hX, ho.keep hb, hd, hT, hU.trans (Upd.below hb)⟩
structure ED (w0 w : World) (k : KC) (s : KSt) (fc : FC) (x : FM) (l : List (Nat × Array Value)) : Prop where
  kf : KF w k s fc x
  hb : Below w0.heap.size w0 w
  lo : ∀ j, s.tag j ≠ 0 → w0.heap.size ≤ j
  lb : ∀ j, x.bs j → w0.heap.size ≤ j
  rows : ∀ p, p ∈ l → Row w p.1 34 p.2 ∧ s.tag p.1 = 0 ∧ ¬ x.bs p.1
section
variable {w0 w w1 w' : World} {k : KC} {s : KSt} {fc : FC} {x : FM} {l : List (Nat × Array Value)} {T : KSt → FM → Int → Int → Int → List Int → Prop} {X : Array Value} {p : Nat} {A : Array Value}
theorem ED.keep (h : ED w0 w k s fc x l) (hb : Below w.heap.size w w') : ED w0 w' k s fc x l := ⟨h.kf.keep hb, h.hb.trans (hb.mono h.hb.size), h.lo, h.lb, fun p hp => ⟨(h.rows p hp).1.keep hb, (h.rows p hp).2⟩⟩
theorem ED.asked (h : ED w0 w k s fc x l) (ho : KOutD w.heap.size k fc s.tag x.bs T w X w') : ∃ s' x' e a b d dl, X = ansV e a b d ∧ T s' x' e a b dl ∧ OB w.heap.size w' d dl ∧ ED w0 (w'.alloc (.cells X 34)) k s' fc x' ((w'.heap.size, X) :: l) ∧ (∀ j, d.ownBlock = some j → s'.tag j = 0 ∧ ¬ x'.bs j) ∧ FarT s.tag w.heap.size s'.tag ∧ (∀ j, x'.bs j → x.bs j ∨ w.heap.size ≤ j) ∧ Upd (fun j => s.tag j ≠ 0 ∨ x.bs j ∨ w.heap.size ≤ j) w w' := by
  obtain ⟨s', x', e, a, b, d, dl, hk, hf, hx, rfl, hO, hd, hT, hU⟩ := ho
  have z0 := h.hb.size
  have z2 := hU.size
  have al := Go.Joins.below_alloc1 w' (.cells (ansV e a b d) 34)
  refine ⟨s', x', e, a, b, d, dl, rfl, hT, hO, ⟨hk.keep al, (h.hb.trans (hU.toBelow z0 (fun j hj q => ?_))).trans (al.mono (by omega)), fun j hj => ?_, fun j hj => ?_, fun q hq => ?_⟩, hd, hf, hx, hU⟩
  · rcases q with q | q | q
    · have := h.lo j q; omega
    · have := h.lb j q; omega
    · omega
  · rcases hf j hj with q | q
    · exact h.lo j q
    · omega
  · rcases hx j hj with q | q
    · exact h.lb j q
    · omega
  · rcases List.mem_cons.1 hq with rfl | hq
    · exact ⟨row_new _ _ _, hk.kt.tz _ (Nat.le_refl _), fun e => by have := hk.fs.lt _ e; omega⟩
    · obtain ⟨r1, r2, r3⟩ := h.rows q hq
      have hlt := r1.lt
      refine ⟨(r1.upd hU (fun e => ?_)).keep al, ?_, fun e => ?_⟩
      · rcases e with e | e | e
        · exact e r2
        · exact r3 e
        · omega
      · cases Nat.eq_zero_or_pos (s'.tag q.1) with
        | inl e => exact e
        | inr e =>
          rcases hf q.1 (by omega) with e2 | e2
          · exact absurd r2 e2
          · omega
      · rcases hx q.1 e with e2 | e2
        · exact r3 e2
        · omega
theorem ED.ask (h : ED w0 w k s fc x l) (haw : Awake s p) (hA : A.size = 7) (hs : OutOk w (KOutD w.heap.size k fc s.tag x.bs T) → Spec w (KOutD w.heap.size k fc s.tag x.bs T) 18 #[.pointer (some ⟨k.K, 0, none⟩), .int .i64 p, .agg A]) :
    Calls Tryz.prog 7 #[.pointer (some ⟨k.K, 0, none⟩), .int .i64 p, .agg A] w fun e2 w' => ∃ s' x' e a b d dl, e2 = .returned (.agg (ansV e a b d)) ∧ T s' x' e a b dl ∧ OB w.heap.size w' d dl ∧ ED w0 (w'.alloc (.cells (ansV e a b d) 34)) k s' fc x' ((w'.heap.size, ansV e a b d) :: l) ∧ (∀ j, d.ownBlock = some j → s'.tag j = 0 ∧ ¬ x'.bs j) ∧ FarT s.tag w.heap.size s'.tag ∧ (∀ j, x'.bs j → x.bs j ∨ w.heap.size ≤ j) ∧ Upd (fun j => s.tag j ≠ 0 ∨ x.bs j ∨ w.heap.size ≤ j) w w' := by
  have ok := koutD_ok (k := k) (fc := fc) (w0 := w) (tag0 := s.tag) (bs0 := x.bs) h.kf.kt.tz h.kf.fs.lt T
  refine (askP_is ok (Below.refl _ _) h.kf.kt haw hA (hs ok)).mono ?_
  rintro e2 w' ⟨X, rfl, hX, hone, hu, ho⟩
  obtain ⟨s', x', e, a, b, d, dl, rfl, hT, hO, he, hd, hf, hx, hU⟩ := h.asked ho
  exact ⟨s', x', e, a, b, d, dl, rfl, hT, hO, he, hd, hf, hx, hU⟩
theorem koutF_D {B0 : Nat} {tag0 : Nat → Nat} {bs0 : Nat → Prop} {T0 : KSt → FM → Nat → Int → Int → Int → Prop} (h : KOutF B0 k fc tag0 bs0 T0 w X w') : KOutD B0 k fc tag0 bs0 (fun s x e a b l => l = [] ∧ ∃ g, T0 s x g e a b) w X w' := by
  obtain ⟨s, x, g, e, a, b, hk, hf, hx, hg, hgl, rfl, hT, hU⟩ := h
  exact ⟨s, x, e, a, b, _, [], hk, hf, hx, rfl, OB.nil _ _, fun j e => (by cases e), ⟨rfl, g, hT⟩, hU⟩
theorem specF_D {B0 : Nat} {tag0 : Nat → Nat} {bs0 : Nat → Prop} {T0 : KSt → FM → Nat → Int → Int → Int → Prop} {f : Nat} {args : Array Value} (h : Spec w (KOutF B0 k fc tag0 bs0 T0) f args) : Spec w (KOutD B0 k fc tag0 bs0 (fun s x e a b l => l = [] ∧ ∃ g, T0 s x g e a b)) f args := fun w1 h1 => (h w1 h1).mono (by
  rintro e w' ⟨X, rfl, hX, hone, hu, ho⟩
  exact ⟨X, rfl, hX, hone, hu, koutF_D ho⟩)
end
end Go.Proofs.YtlfemcbfclallaaGreatDoor
namespace Go.Proofs.YtlfemcbfclallaaGreatDoor
open Go.RowKit
set_option linter.unusedVariables false
set_option linter.unusedSimpArgs false
section
variable {w0 w : World} {k : KC} {s : KSt} {fc : FC} {x : FM} {p : Nat} {A : Array Value} {U K : Int} {a : Option Addr} {cap gc cc : Nat}
attribute [local go_sem ↓] ld_ans st_ans ld_call bd_ans
set_option maxRecDepth 100000 in
set_option maxHeartbeats 1000000 in
theorem change13_is (h : KF w k s fc x) (q : Who w s p 0 127 a cap gc cc) {q0 : Nat} {m : Int} {z : List Int} (hf : FileZ x q0 m z) (hm : 0 ≤ m ∧ m ≤ 511) (hz2 : z.length ≤ 256) (hh : 0 < hcn (x.held 2)) (hA : A.size = 7) (ha0 : A[0]? = some (.int .i64 13)) (ha4 : A[4]? = some (.string ⟨#[102]⟩)) :
    Calls Tryz.prog 85 #[.pointer (some ⟨k.K, 0, none⟩), .int .i64 p, .agg A] w fun e w' => e = .returned (.int .i64 0) ∧ (∃ x', KF w' k s fc x' ∧ Gone x' q0 z ∧ x'.held = x.held ∧ ∀ j, x'.bs j → x.bs j ∨ w.heap.size ≤ j) ∧ Upd (fun j => x.bs j ∨ w.heap.size ≤ j) w w' := by
  have hb := Go.Joins.below_alloc1 w (.cells A 37)
  have hr := row_new w 37 A
  have d0 := (hr.cell 0).trans ha0
  have d4 := (hr.cell 4).trans ha4
  have HLS := Lib.hid (klast_is (h.keep hb) (q.keep hb) hf.k (may_root hf.k hf.m0 hf.u hf.g a cap q.hc (.inl rfl)) (may_root hf.k hf.m0 hf.u hf.g a cap q.hc (.inr rfl)))
  have HUN := Lib.hid (fun wx (hbx : Below w.heap.size w wx) => unlink_is (h.keep hbx).fs hf hm hz2 hh)
  have HH := Lib.hid h
  have HB := Lib.hid hb
  have HR := Lib.hid hr
  have i0 : (0 : Int) ≤ p := by omega
  have i17 : (p : Int) < 17 := by have := q.p16; omega
  have hKlt : k.K < w.heap.size := h.kt.kr.lt
  clear h q hf hm hz2 hh ha0 ha4 hb hr hA
  go_enter Tryz.func85, Tryz.ntmps85
  go_upto_region 1 with fail
  generalize w.alloc (.cells A 37) = w1 at *
  go_upto_region 5 with (go_at_call 162; (with_reducible refine HLS.out.mono ?_); rintro e2 w2 ⟨rfl, hb2⟩; have HB2 := Lib.hid (HB.out.trans (hb2.mono HB.out.size)); have e0 := ((hb2.cell (p := ⟨w.heap.size, 0, none⟩) (World.block_lt_of_cell? w1 _ d0)).trans d0); clear hb2)
  have hfs := (HH.out.keep HB2.out).fsp
  have HU2 := Lib.hid (HUN.out _ HB2.out)
  clear d0 d4 HLS HUN
  go_wp2_with (go_at_call 163; (with_reducible refine HU2.out.mono ?_); rintro e3 w3 ⟨rfl, ⟨x', hF, hg, hh, hn, ha, hbs⟩, hu⟩; have HF3 := Lib.hid (And.intro hF (And.intro hg (And.intro hh hbs))); have HU3 := Lib.hid hu; clear hF hg hh hn ha hbs hu)
  go_ret
  obtain ⟨hF, hg, hh, hbs⟩ := HF3.out
  have hsz := HB2.out.size
  have hbF : ∀ j, (j = fc.F ∨ j = x.a) → x.bs j := fun j e => by
    rcases e with rfl | rfl
    · exact HH.out.fs.bm _ (.inl rfl)
    · exact HH.out.fs.bm _ (.inr (.inl rfl))
  have hbs2 : ∀ j, x'.bs j → x.bs j ∨ w.heap.size ≤ j := fun j e => (hbs j e).imp_right fun e => by omega
  refine ⟨rfl, ⟨x', ⟨(HH.out.keep HB2.out).kt.upd HU3.out (fun j hj e => hj (HH.out.sep j (hbF j e))), HH.out.c2, hF, fun j e => ?_⟩, hg, hh, hbs2⟩, (Upd.below HB2.out).trans (HU3.out.mono fun j _ e => .inl (hbF j e))⟩
  rcases hbs2 j e with e | e
  · exact HH.out.sep j e
  · exact HH.out.kt.tz j e
set_option maxRecDepth 100000 in
set_option maxHeartbeats 1000000 in
theorem named13_is (h : KF w0 k s fc x) (q : Who w0 s p 0 127 a cap gc cc) {q0 : Nat} {m : Int} {z : List Int} (hf : FileZ x q0 m z) (hm : 0 ≤ m ∧ m ≤ 511) (hz2 : z.length ≤ 256) (hh : 0 < hcn (x.held 2)) (hA : A.size = 7) (ha : A[0]? = some (.int .i64 13)) (ha4 : A[4]? = some (.string ⟨#[102]⟩)) :
    Spec w0 (KOutD w0.heap.size k fc s.tag x.bs (fun s' x' e a c l => e = 0 ∧ s' = s ∧ Gone x' q0 z ∧ x'.held = x.held)) 39 #[.pointer (some ⟨k.K, 0, none⟩), .int .i64 p, .agg A] := by
  intro w h0
  have hb1 := Go.Joins.below_alloc1 w (.cells A 37)
  have hal : Below w.heap.size w ((w.alloc (.cells A 37)).alloc (.cells ansZ 34)) := hb1.trans ((Go.Joins.below_alloc1 _ _).mono hb1.size)
  have hr1 := (row_new w 37 A).alloc (.cells ansZ 34)
  have hr2 := row_new (w.alloc (.cells A 37)) 34 ansZ
  rw [size_alloc1] at hr2
  have d0 : ((w.alloc (.cells A 37)).alloc (.cells ansZ 34)).cell? ⟨w.heap.size, 0, none⟩ = some (.int .i64 13) := by rw [hr1.cell, ha]
  have l2 := ld_callR hr1 hA
  have HCH := Lib.hid (change13_is ((h.keep h0).keep hal) ((q.keep h0).keep hal) hf hm hz2 hh hA ha ha4)
  have HR : Hid (Row ((w.alloc (.cells A 37)).alloc (.cells #[.int .i64 0, .int .i64 0, .int .i64 0, .slice none 0 0, .slice none 0 0, .int .i64 0, .int .i64 0, .int .i64 0, .int .i64 0, .int .i64 0, .int .i64 0] 34)) (w.heap.size + 1) 34 ansZ) := Lib.hid hr2
  have HB := Lib.hid hal
  have H0 := Lib.hid h0
  have HH := Lib.hid h
  have HLT := Lib.hid hr2.lt
  clear hal hr1 hr2 hA h0 ha hb1 ha4 h q hf hm hz2 hh
  have hz : ansZ = #[.int .i64 0, .int .i64 0, .int .i64 0, .slice none 0 0, .slice none 0 0, .int .i64 0, .int .i64 0, .int .i64 0, .int .i64 0, .int .i64 0, .int .i64 0] := rfl
  rw [hz] at d0 l2 HB HCH HLT
  go_enter Tryz.func39, Tryz.ntmps39
  go_upto_region 1 with fail
  generalize (w.alloc (.cells A 37)).alloc (.cells #[.int .i64 0, .int .i64 0, .int .i64 0, .slice none 0 0, .slice none 0 0, .int .i64 0, .int .i64 0, .int .i64 0, .int .i64 0, .int .i64 0, .int .i64 0] 34) = w1 at *
  obtain ⟨hX, hone⟩ := ansN3' 0 0 0
  go_wp2_with (first | (go_at_call 85; (with_reducible refine HCH.out.mono ?_); rintro e2 w2 ⟨rfl, ⟨x', hk, hg, hh, hbs⟩, hu⟩; have HK2 := Lib.hid (And.intro hk (And.intro hg (And.intro hh hbs))); have HU2 := Lib.hid hu; clear hk hg hh hbs hu) | (go_at_call 14; (with_reducible refine (fail_is _ _).mono ?_); rintro e3 w3 ⟨rfl, hb3⟩; have hr3 := (HR.out.upd HU2.out (fun e => by rcases e with e | e; have h1 := HH.out.fs.lt _ e; have h2 := H0.out.size; omega; have h3 := HLT.out; omega)).keep hb3; have hst := ans_st hr3 hX hone; have HLD := Lib.hid (ans_ldV hr3 hX); have HB3 := Lib.hid hb3; clear hb3 hr3))
  have hu7 : Upd (fun i => i = w.heap.size + 1) w3 (w3.setRow (w.heap.size + 1) (ansV 0 0 0 (.slice none 0 0))) := Upd.setRow w3 _ rfl
  have HFIN : Hid (KF (w3.setRow (w.heap.size + 1) (ansV 0 0 0 (.slice none 0 0))) k s fc x' ∧ Upd (fun i => x.bs i ∨ w.heap.size ≤ i) w (w3.setRow (w.heap.size + 1) (ansV 0 0 0 (.slice none 0 0)))) := Lib.hid (by
    have z0 := H0.out.size
    have z1 := HB.out.size
    have z2 := HU2.out.size
    have z3 := HB3.out.size
    have hlt := HLT.out
    refine ⟨(HK2.out.1.keep HB3.out).upd hu7 (fun j hj e => ?_) (fun j hj e => ?_), (((Upd.below HB.out).trans (HU2.out.mono fun i _ e => e.imp_right fun e => by omega)).trans (Upd.below HB3.out)).trans (hu7.mono fun i _ e => .inr (by omega))⟩
    · have := HH.out.kt.lt hj; omega
    · rcases HK2.out.2.2.2 j hj with e2 | e2
      · have := HH.out.fs.lt j e2; omega
      · omega)
  have HBS : Hid (∀ j, x'.bs j → x.bs j ∨ w.heap.size ≤ j) := Lib.hid fun j e => (HK2.out.2.2.2 j e).imp_right fun e => by have := HB.out.size; omega
  clear hu7 hst HB3
  generalize hZ : ansV 0 0 0 (.slice none 0 0) = Z at HLD HFIN hX hone ⊢
  have HZ := Lib.hid hZ
  clear hZ
  exact bodyPost_ret (v := .agg Z) (by rw [results_cell1 rfl]; simp [asAddr, Result.andThen, HLD.out]) rfl ⟨Z, rfl, hX, hone, HFIN.out.2.mono (fun i hi e => by
    rcases e with e | e
    · exact HH.out.fs.lt _ e
    · omega), s, x', 0, 0, 0, .slice none 0 0, [], HFIN.out.1, fun i e => .inl e, HBS.out, by rw [HZ.out], OB.nil _ _, fun i e => (by cases e), ⟨rfl, rfl, HK2.out.2.1, HK2.out.2.2.1⟩, HFIN.out.2.mono fun i _ e => .inr e⟩
end
end Go.Proofs.YtlfemcbfclallaaGreatDoor
namespace Go.Proofs.YtlfemcbfclallaaGreatDoor
open Go.RowKit
set_option linter.unusedVariables false
set_option linter.unusedSimpArgs false
section
variable {w0 w : World} {k : KC} {s : KSt} {fc : FC} {x : FM} {p : Nat} {A : Array Value} {U K : Int} {a : Option Addr} {cap gc cc : Nat}
attribute [local go_sem ↓] ld_ans st_ans ld_call bd_ans ld_sta st_sta
attribute [local go_sem] stS_new
set_option maxRecDepth 100000 in
set_option maxHeartbeats 1000000 in
theorem namedS_is (h : KF w0 k s fc x) (q : Who w0 s p U K a cap gc cc) (hk : (x.nd 0).k = 2) (hp : (x.nd 0).ps = []) (hs : (x.nd 0).sz = 0)
    (hM : ∀ w, Calls Tryz.prog 169 #[.agg (stA (x.nd 0)), .agg (crA U K a cap), .int .i64 4] w fun e w' => e = .returned (.tuple #[.bool true, .int .i64 0]) ∧ Below w.heap.size w w') (hA : A.size = 7) (ha : A[0]? = some (.int .i64 17)) (ha4 : A[4]? = some (.string ⟨#[102]⟩)) :
    Spec w0 (KOutD w0.heap.size k fc s.tag x.bs (fun s' x' e a c l => e = 4 ∧ s' = s ∧ x' = x)) 39 #[.pointer (some ⟨k.K, 0, none⟩), .int .i64 p, .agg A] := by
  intro w h0
  have hb1 := Go.Joins.below_alloc1 w (.cells A 37)
  have hal : Below w.heap.size w ((w.alloc (.cells A 37)).alloc (.cells ansZ 34)) := hb1.trans ((Go.Joins.below_alloc1 _ _).mono hb1.size)
  have hr1 := (row_new w 37 A).alloc (.cells ansZ 34)
  have hr2 := row_new (w.alloc (.cells A 37)) 34 ansZ
  rw [size_alloc1] at hr2
  have d0 : ((w.alloc (.cells A 37)).alloc (.cells ansZ 34)).cell? ⟨w.heap.size, 0, none⟩ = some (.int .i64 17) := by rw [hr1.cell, ha]
  have d4 : ((w.alloc (.cells A 37)).alloc (.cells ansZ 34)).cell? ⟨w.heap.size, 4, none⟩ = some (.string ⟨#[102]⟩) := by rw [hr1.cell, ha4]
  have HWK := Lib.hid (kwalkN_is ((h.keep h0).keep hal) ((q.keep h0).keep hal) hk hp hs hM)
  have HR : Hid (Row ((w.alloc (.cells A 37)).alloc (.cells #[.int .i64 0, .int .i64 0, .int .i64 0, .slice none 0 0, .slice none 0 0, .int .i64 0, .int .i64 0, .int .i64 0, .int .i64 0, .int .i64 0, .int .i64 0] 34)) (w.heap.size + 1) 34 ansZ) := Lib.hid hr2
  have HB := Lib.hid hal
  have H0 := Lib.hid h0
  have HH := Lib.hid h
  have HLT := Lib.hid hr2.lt
  clear hal hr1 hr2 hA h0 ha hb1 ha4 h q hk hp hs hM
  have hz : ansZ = #[.int .i64 0, .int .i64 0, .int .i64 0, .slice none 0 0, .slice none 0 0, .int .i64 0, .int .i64 0, .int .i64 0, .int .i64 0, .int .i64 0, .int .i64 0] := rfl
  rw [hz] at d0 d4 HB HWK HLT
  go_enter Tryz.func39, Tryz.ntmps39
  go_upto_region 1 with fail
  generalize (w.alloc (.cells A 37)).alloc (.cells #[.int .i64 0, .int .i64 0, .int .i64 0, .slice none 0 0, .slice none 0 0, .int .i64 0, .int .i64 0, .int .i64 0, .int .i64 0, .int .i64 0, .int .i64 0] 34) = w1 at *
  obtain ⟨hX, hone⟩ := ansN3' 4 0 0
  go_upto_region 15 with (go_at_call 87; (with_reducible refine HWK.out.mono ?_); rintro e2 w2 ⟨rfl, hb2⟩)
  have b3 := Go.Joins.below_alloc1 w2 (.cells (stA nd0) 32)
  have HB3 := Lib.hid ((hb2.trans (b3.mono hb2.size)))
  clear b3 hb2 d0 d4 HWK
  generalize w2.alloc (.cells (stA nd0) 32) = w3 at *
  go_wp2_with (go_at_call 14; (with_reducible refine (fail_is _ _).mono ?_); rintro e3 w4 ⟨rfl, hb4⟩; have HB4 := Lib.hid (HB3.out.trans (hb4.mono HB3.out.size)); have hr3 := HR.out.keep HB4.out; have hst := ans_st hr3 hX hone; have HLD := Lib.hid (ans_ldV hr3 hX); clear hb4 hr3)
  have hu7 : Upd (fun i => i = w.heap.size + 1) w4 (w4.setRow (w.heap.size + 1) (ansV 4 0 0 (.slice none 0 0))) := Upd.setRow w4 _ rfl
  have HFIN : Hid (KF (w4.setRow (w.heap.size + 1) (ansV 4 0 0 (.slice none 0 0))) k s fc x ∧ Below w.heap.size w (w4.setRow (w.heap.size + 1) (ansV 4 0 0 (.slice none 0 0)))) := Lib.hid (by
    have z0 := H0.out.size
    have hb := HB.out.trans (HB4.out.mono HB.out.size)
    have hb2 := hb.trans (hu7.toBelow hb.size (fun j hj e => by have e : j = w.heap.size + 1 := e; omega))
    exact ⟨HH.out.keep (H0.out.trans (hb2.mono z0)), hb2⟩)
  clear hu7 hst HB4
  generalize hZ : ansV 4 0 0 (.slice none 0 0) = Z at HLD HFIN hX hone ⊢
  have HZ := Lib.hid hZ
  clear hZ
  exact bodyPost_ret (v := .agg Z) (by rw [results_cell1 rfl]; simp [asAddr, Result.andThen, HLD.out]) rfl ⟨Z, rfl, hX, hone, Upd.below HFIN.out.2, s, x, 4, 0, 0, .slice none 0 0, [], HFIN.out.1, fun i e => .inl e, fun j e => .inl e, by rw [HZ.out], OB.nil _ _, fun i e => (by cases e), ⟨rfl, rfl, rfl⟩, Upd.below HFIN.out.2⟩
end
end Go.Proofs.YtlfemcbfclallaaGreatDoor
