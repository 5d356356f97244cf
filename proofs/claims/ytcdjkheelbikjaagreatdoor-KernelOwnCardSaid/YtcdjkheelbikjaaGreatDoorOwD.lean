/- What the kernel is asked while its caller holds bytes of its own. The kernel's Procs where process 1 alone lives; what else the law of copies asks for. -/
import Derived.Test.YtcdjkheelbikjaaGreatDoorRdC
import Derived.Test.YtcdjkheelbikjaaGreatDoorLsB
import Derived.Test.YtcdjkheelbikjaaGreatDoorSlA
import Derived.Test.YtcdjkheelbikjaaGreatDoorRwA
import Derived.Test.YtcdjkheelbikjaaGreatDoorEq
namespace Go.Proofs.YtcdjkheelbikjaaGreatDoor
open Go.RowKit
set_option linter.unusedVariables false
set_option linter.unusedSimpArgs false
/-- what a call may touch, and what the file system's blocks then are -/
structure Ste (t : Nat → Nat) (w : World) (x : FM) (w' : World) (x' : FM) : Prop where
  up : Upd (fun j => t j ≠ 0 ∨ x.bs j ∨ w.heap.size ≤ j) w w'
  far : ∀ j, x'.bs j → x.bs j ∨ w.heap.size ≤ j
/-- a block that is nobody's -/
def Fre (t : Nat → Nat) (x : FM) (v : Value) : Prop := ∀ j, v.ownBlock = some j → t j = 0 ∧ ¬ x.bs j
/-- two slices lie in two blocks -/
def Dis (v v' : Value) : Prop := ∀ j, v.ownBlock = some j → v'.ownBlock ≠ some j
section
variable {w0 w w' w'' : World} {k : KC} {s : KSt} {fc : FC} {x x' : FM} {t : Nat → Nat} {B B' : Nat} {v v' : Value} {z z' : List Int}
theorem Ste.keep (h : Ste t w x w' x') (hb : Below w'.heap.size w' w'') : Ste t w x w'' x' := ⟨h.up.trans (Upd.below hb), h.far⟩
theorem Ste.own (h : Ste t w x w' x') (ho : OB B w v z) (hf : Fre t x v) : OB B w' v z ∧ Fre t x' v := by
  refine ⟨ho.upd h.up (fun g hg e => ?_), fun g hg => ⟨(hf g hg).1, fun e => ?_⟩⟩
  · rcases e with e | e | e
    · exact e (hf g hg).1
    · exact (hf g hg).2 e
    · have := (ho.lt g hg).2; omega
  · rcases h.far g e with q | q
    · exact (hf g hg).2 q
    · have := (ho.lt g hg).2; omega
theorem dis_of (h : OB B w v z) (h' : OB B' w' v' z') (hB : w.heap.size ≤ B') : Dis v v' := fun j e e' => by
  have h1 := (h.lt j e).2
  have h2 := (h'.lt j e').1
  omega
theorem Dis.symm (h : Dis v v') : Dis v' v := fun j e e' => h j e' e
theorem OB.dis (h : OB B w v z) (hd : Dis v' v) (hu : Upd (fun j => v'.ownBlock = some j) w w') : OB B w' v z := h.upd hu (fun g hg e => hd g e hg)
theorem ED.fre (h : ED w0 w k s fc x []) (ho : OB B w' v z) (hB : w.heap.size ≤ B) : Fre s.tag x v := fun j e => by
  have h1 := (ho.lt j e).1
  exact ⟨h.kf.kt.tz j (by omega), fun q => by have := h.kf.fs.lt j q; omega⟩
theorem ED.upd {S : Nat → Prop} (h : ED w0 w k s fc x []) (hu : Upd S w w') (hn : ∀ j, j < w.heap.size → S j → s.tag j = 0 ∧ ¬ x.bs j ∧ w0.heap.size ≤ j) : ED w0 w' k s fc x [] := by
  have z0 := h.hb.size
  refine ⟨h.kf.upd hu (fun j hj q => hj (hn j (h.kf.kt.lt hj) q).1) (fun j hj q => (hn j (h.kf.fs.lt j hj) q).2.1 hj), h.hb.trans (hu.toBelow z0 (fun j hj q => ?_)), h.lo, h.lb, fun _ e => nomatch e⟩
  have := (hn j (by omega) q).2.2
  omega
theorem ED.own (h : ED w0 w k s fc x []) (ho : OB B w v z) (hf : Fre s.tag x v) (hB : w0.heap.size ≤ B) (hu : Upd (fun j => v.ownBlock = some j) w w') : ED w0 w' k s fc x [] := h.upd hu (fun j hj e => ⟨(hf j e).1, (hf j e).2, Nat.le_trans hB (ho.lt j e).1⟩)
end
section
variable {w0 w w' : World} {k : KC} {s : KSt} {fc : FC} {x : FM} {p : Nat} {A : Array Value} {T : KSt → FM → Int → Int → Int → List Int → Prop} {a : Option Addr} {cap gc cc : Nat}
theorem ED.ask3 (h : ED w0 w k s fc x []) (haw : Awake s p) (hA : A.size = 7) (hs : OutOk w (KOutD w.heap.size k fc s.tag x.bs T) → Spec w (KOutD w.heap.size k fc s.tag x.bs T) 24 #[.pointer (some ⟨k.K, 0, none⟩), .int .i64 p, .agg A]) :
    Calls Tryz.prog 10 #[.pointer (some ⟨k.K, 0, none⟩), .int .i64 p, .agg A] w fun e2 w' => ∃ s' x' e a b d dl, e2 = .returned (.agg (ansV e a b d)) ∧ T s' x' e a b dl ∧ OB w.heap.size w' d dl ∧ ED w0 w' k s' fc x' [] ∧ Fre s'.tag x' d ∧ Ste s.tag w x w' x' := by
  have ok := koutD_ok (k := k) (fc := fc) (w0 := w) (tag0 := s.tag) (bs0 := x.bs) h.kf.kt.tz h.kf.fs.lt T
  refine (askP_is ok (Below.refl _ _) h.kf.kt haw hA (hs ok)).mono ?_
  rintro e2 w' ⟨X, rfl, hX, hone, hu, s', x', e, a, b, d, dl, hk, hf, hx, rfl, hO, hd, hT, hU⟩
  have z0 := h.hb.size
  refine ⟨s', x', e, a, b, d, dl, rfl, hT, hO, ⟨hk, h.hb.trans (hU.toBelow z0 (fun j hj q => ?_)), fun j hj => ?_, fun j hj => ?_, fun _ e => nomatch e⟩, hd, hU, hx⟩
  · rcases q with q | q | q
    · have := h.lo j q; omega
    · have := h.lb j q; omega
    · omega
  · rcases hf j hj with q | q
    · exact h.lo j q
    · omega
  · rcases hx j hj with q | q
    · exact h.lb j q
    · omega
theorem openN_own (h : ED w0 w k s fc x []) (haw : Awake s 1) (q : Who w s 1 0 127 a cap gc cc) {q0 : Nat} (hr : Root0 x q0) (hna : x.na ≤ 2) (hh : x.nh < 1000 ∧ hcn (x.held 2) < 1000) (hf1 : ∃ j, j < 8 ∧ s.fd (1 * 8 + j) = 0) (hf2 : ∃ k0, k0 < 32 ∧ (s.fs k0).n = 0) (hg1 : ¬ x.bs gc) (hg2 : gc ≠ k.Fi) :
    Calls Tryz.prog 6 #[.pointer (some ⟨k.K, 0, none⟩), .int .i64 1, .string ⟨#[102]⟩, .int .i64 1] w fun e w' => ∃ j : Nat, e = .returned (.int .i64 j) ∧ ∃ k0 x1, ED w0 w' k (OpenTo s 1 3 j k0) fc x1 [] ∧ j < 8 ∧ k0 < 32 ∧ FileF x1 q0 420 ∧ Ste s.tag w x w' x1 := by
  refine opened_is (K := k.K) (p := 1) (B := 1) (nm := ⟨#[102]⟩) (P := fun w' j => ∃ k0 x1, ED w0 w' k (OpenTo s 1 3 j k0) fc x1 [] ∧ j < 8 ∧ k0 < 32 ∧ FileF x1 q0 420 ∧ Ste s.tag w x w' x1) ?_
  refine (h.ask3 (p := 1) (A := callO 1 ⟨#[102]⟩) haw rfl (fun ok => doD_is ok rfl rfl rfl (descO_is ok rfl rfl rfl (specF_D (spec_openN (A := callO 1 ⟨#[102]⟩) h.kf q (by decide) hr hna (m := 420) (by decide) rfl rfl rfl rfl rfl hh hf1 hf2 hg1 hg2))))).mono ?_
  rintro e2 w' ⟨s', x', e, a2, b, d, dl, he2, ⟨hl, g, he0, j, k0, hj, hk0, hs', hf, hnh, hhd, hg, ha2⟩, hO, he, hd, hst⟩
  obtain ⟨pd, cd, hdv⟩ := hO.form
  subst he0
  subst hs'
  subst ha2
  subst hdv
  exact ⟨j, b, pd, dl.length, cd, he2, k0, x', he.keep (Go.Joins.below_alloc1 _ _), hj, hk0, hf, hst.keep (Go.Joins.below_alloc1 _ _)⟩
theorem put_own (h : ED w0 w k s fc x []) (haw : Awake s 1) {q0 : Nat} (hf : FileF x q0 420) {j k0 : Nat} (hj : j < 8) (hd : s.fd (1 * 8 + j) = k0 + 1) (hF : OpenLaw.thing (s.fs k0) = .agg (thF 0)) {z : List Int} {ad : Option Addr} {L cp : Nat} (hL : L = z.length) (hz : At (Value.int .u8) 0 w (.slice ad L cp) z) (hz2 : z.length ≤ 256) :
    Calls Tryz.prog 7 #[.pointer (some ⟨k.K, 0, none⟩), .int .i64 1, .int .i64 j, .slice ad L cp] w fun e w' => e = .returned (.bool true) ∧ ∃ x2, ED w0 w' k (SeekTo s k0 z.length) fc x2 [] ∧ FileZ x2 q0 420 z ∧ Ste s.tag w x w' x2 := by
  subst hL
  refine put_is (K := k.K) (p := 1) (fd := (j : Int)) (P := fun w' => ∃ x2, ED w0 w' k (SeekTo s k0 z.length) fc x2 [] ∧ FileZ x2 q0 420 z ∧ Ste s.tag w x w' x2) ?_
  have hs := spec_writeZ (A := callP j ad z.length cp) h.kf (by decide) (by decide) hf (by decide) hj hd hF rfl rfl rfl rfl hz hz2
  refine (h.ask3 (p := 1) (A := callP j ad z.length cp) haw rfl hs).mono ?_
  rintro e2 w' ⟨s', x', e, a2, b, d, dl, he2, ⟨he0, ha2, hs', hfz, hh, hn, hl⟩, hO, he, hdd, hst⟩
  obtain ⟨pd, cd, hdv⟩ := hO.form
  subst he0
  subst ha2
  subst hs'
  subst hdv
  exact ⟨b, pd, dl.length, cd, he2, x', he.keep (Go.Joins.below_alloc1 _ _), hfz, hst.keep (Go.Joins.below_alloc1 _ _)⟩
theorem seek_own (h : ED w0 w k s fc x []) (haw : Awake s 1) {j k0 : Nat} (hj : j < 8) (hd : s.fd (1 * 8 + j) = k0 + 1) {a0 : Int} (hF : OpenLaw.thing (s.fs k0) = .agg (thF a0)) {b : Int} (hb0 : 0 ≤ b ∧ b ≤ 512) :
    Calls Tryz.prog 10 #[.pointer (some ⟨k.K, 0, none⟩), .int .i64 1, .agg (callA 9 j b 0)] w fun e2 w' => ∃ V, e2 = .returned (.agg V) ∧ ED w0 w' k (SeekTo s k0 b) fc x [] ∧ Ste s.tag w x w' x := by
  refine (h.ask3 (p := 1) (A := callA 9 j b 0) haw rfl (spec_seekZ h.kf (by decide) (by decide) hj hd hF rfl rfl rfl rfl hb0)).mono ?_
  rintro e2 w' ⟨s', x', e, a2, b2, d, dl, he2, ⟨he0, hs', hx', hl⟩, hO, he, hdd, hst⟩
  subst hs'
  subst hx'
  exact ⟨_, he2, he, hst⟩
theorem got_own (h : ED w0 w k s fc x []) (haw : Awake s 1) {q0 : Nat} {m : Int} {z : List Int} (hf : FileZ x q0 m z) (hz2 : z.length ≤ 256) {j k0 : Nat} (hj : j < 8) (hd : s.fd (1 * 8 + j) = k0 + 1) {a0 n : Nat} (hF : OpenLaw.thing (s.fs k0) = .agg (thF a0)) (ha : a0 ≤ 256) (hn : n ≤ 256) :
    Calls Tryz.prog 11 #[.pointer (some ⟨k.K, 0, none⟩), .int .i64 1, .int .i64 j, .int .i64 n] w fun e w' => ∃ pd m1 cd, e = .returned (.tuple #[.slice pd m1 cd, .int .i64 0]) ∧ OB w.heap.size w' (.slice pd m1 cd) ((z.drop a0).take n) ∧ Fre s.tag x (.slice pd m1 cd) ∧ ED w0 w' k (SeekTo s k0 ((a0 + ((z.drop a0).take n).length : Nat) : Int)) fc x [] ∧ Ste s.tag w x w' x := by
  refine got_is (K := k.K) (p := 1) (fd := (j : Int)) (n := (n : Int)) (P := fun w' v => OB w.heap.size w' v ((z.drop a0).take n) ∧ Fre s.tag x v ∧ ED w0 w' k (SeekTo s k0 ((a0 + ((z.drop a0).take n).length : Nat) : Int)) fc x [] ∧ Ste s.tag w x w' x) ?_ (fun w1 w2 v hv hb => ⟨hv.1.keep hb, hv.2.1, hv.2.2.1.keep hb, hv.2.2.2.keep hb⟩)
  have hs := spec_readZ (A := callA 7 j 0 n) h.kf (by decide) (by decide) hf hz2 hj hd hF rfl rfl rfl rfl ha hn
  refine (h.ask3 (p := 1) (A := callA 7 j 0 n) haw rfl hs).mono ?_
  rintro e2 w' ⟨s', x', e, a2, b2, d, dl, he2, ⟨he0, hdl, ha2, hs', hx'⟩, hO, he, hdd, hst⟩
  obtain ⟨pd, cd, hdv⟩ := hO.form
  subst he0
  subst hx'
  subst hdl
  subst hs'
  subst hdv
  have hal := Go.Joins.below_alloc1 w' (.cells (ansV 0 a2 b2 (.slice pd ((z.drop a0).take n).length cd)) 37)
  exact ⟨a2, b2, pd, _, cd, he2, hO.keep hal, hdd, he.keep hal, hst.keep hal⟩
/-- a call by name: the root's entries are asked for -/
def callL : Array Value := #[.int .i64 32, .int .i64 0, .int .i64 0, .int .i64 0, .string ⟨#[47]⟩, .string ByteArray.empty, .slice none 0 0]
theorem bdc_L (w : World) : (bdC #[(0, .int .i64 32), (4, .string ⟨#[47]⟩)]).run Tryz.prog w = .ok (.agg callL) w := by kernel_rfl
theorem list_own (h : ED w0 w k s fc x []) (haw : Awake s 1) (q : Who w s 1 0 127 a cap gc cc) {q0 : Nat} {z : List Int} (hf : FileZ x q0 420 z) :
    Calls Tryz.prog 10 #[.pointer (some ⟨k.K, 0, none⟩), .int .i64 1, .agg callL] w fun e2 w' => ∃ g cg, e2 = .returned (.agg (ansT 1 (.slice (some ⟨g, 0, none⟩) 1 cg))) ∧ w.heap.size ≤ g ∧ E1 w' g 0 cg ∧ Below w.heap.size w w' := by
  have hM := may_rootR hf.k hf.m0 hf.u hf.g a cap q.hc
  refine (askP_is (listOut_ok w) (Below.refl _ _) h.kf.kt haw rfl (doN_is (listOut_ok w) (.inr (.inr rfl)) rfl rfl (namedL_is (A := callL) h.kf q hf.k hf.ps hf.q0 (by have := hf.q1; omega) hf.sz hf.sec hM rfl rfl rfl))).mono ?_
  rintro e2 w' ⟨X, rfl, hX, hone, hu, g, cg, rfl, hg, he, hb⟩
  exact ⟨g, cg, rfl, hg, he, hb⟩
theorem Awake.op {s : KSt} {p q : Nat} {W : Int} {j k0 : Nat} (h : Awake s p) : Awake (OpenTo s q W j k0) p := ⟨h.p1, h.p16, h.lv, h.sl, h.sg⟩
theorem Awake.sk {s : KSt} {p k0 : Nat} {a : Int} (h : Awake s p) : Awake (SeekTo s k0 a) p := ⟨h.p1, h.p16, h.lv, h.sl, h.sg⟩
theorem op_thing (s : KSt) (p j k0 : Nat) : OpenLaw.thing ((OpenTo s p 3 j k0).fs k0) = .agg (thF 0) := by
  show OpenLaw.thing (OpenLaw.updF _ k0 ⟨1, 2, 3, false, 0, 1⟩ k0) = _
  rw [OpenLaw.updF_same]
  rfl
theorem op_fd (s : KSt) (p j k0 : Nat) : (OpenTo s p 3 j k0).fd (p * 8 + j) = k0 + 1 := by
  show OpenLaw.updN _ (p * 8 + j) (k0 + 1) (p * 8 + j) = _
  rw [OpenLaw.updN_same]
theorem sk_thing {s : KSt} {k0 : Nat} {a b : Int} (h : OpenLaw.thing (s.fs k0) = .agg (thF a)) : OpenLaw.thing ((SeekTo s k0 b).fs k0) = .agg (thF b) := by
  show OpenLaw.thing (OpenLaw.updF _ k0 { s.fs k0 with pos := b } k0) = _
  rw [OpenLaw.updF_same]
  unfold OpenLaw.thing thF at *
  injection h with h
  simp only [Array.mk.injEq, List.cons.injEq, and_true] at h
  obtain ⟨h1, h2, h3, h4, -⟩ := h
  rw [h1, h2, h3, h4]
/-- a descriptor at work: who has it open, and where it goes on -/
structure Hel (s0 s : KSt) (j k0 : Nat) (b : Int) : Prop where
  aw : Awake s 1
  fd : s.fd (1 * 8 + j) = k0 + 1
  th : OpenLaw.thing (s.fs k0) = .agg (thF b)
  tag : s.tag = s0.tag
  c : s.c = s0.c
  t : s.t = s0.t
  cw : s.cw = s0.cw
theorem Hel.op {s : KSt} (h : Awake s 1) (j k0 : Nat) : Hel s (OpenTo s 1 3 j k0) j k0 0 := ⟨h.op, op_fd s 1 j k0, op_thing s 1 j k0, rfl, rfl, rfl, rfl⟩
theorem Hel.sk {s0 s : KSt} {j k0 : Nat} {b : Int} (h : Hel s0 s j k0 b) (b' : Int) : Hel s0 (SeekTo s k0 b') j k0 b' := ⟨h.aw.sk, h.fd, sk_thing h.th, h.tag, h.c, h.t, h.cw⟩
theorem Hel.who {s0 s : KSt} {j k0 : Nat} {b : Int} (h : Hel s0 s j k0 b) {w w' : World} {U K : Int} {a : Option Addr} {cap gc cc : Nat} (q : Who w s0 1 U K a cap gc cc) (hg : w'.cell? ⟨gc, 0, none⟩ = some (.int .i64 1)) : Who w' s 1 U K a cap gc cc := by
  refine ⟨q.p16, fun i hi => ?_, ?_, ?_, hg, q.hc, q.c1, q.c2, q.hU, q.hK⟩
  · rw [h.c]; exact q.cr i hi
  · rw [h.c]; exact q.wd
  · rw [h.c]; exact q.mt
theorem got60 (h : ED w0 w k s fc x []) {s0 : KSt} {j k0 q0 : Nat} {m : Int} {z : List Int} (hl : Hel s0 s j k0 0) (hj : j < 8) (hf : FileZ x q0 m z) (hz2 : z.length ≤ 60) :
    Calls Tryz.prog 11 #[.pointer (some ⟨k.K, 0, none⟩), .int .i64 1, .int .i64 j, .int .i64 100] w fun e w' => ∃ pd m1 cd, e = .returned (.tuple #[.slice pd m1 cd, .int .i64 0]) ∧ OB w.heap.size w' (.slice pd m1 cd) z ∧ Fre s.tag x (.slice pd m1 cd) ∧ ED w0 w' k (SeekTo s k0 z.length) fc x [] ∧ Ste s.tag w x w' x := by
  have h1 := got_own h hl.aw hf (by omega) hj hl.fd (a0 := 0) (n := 100) hl.th (by decide) (by decide)
  rw [List.drop_zero, List.take_of_length_le (by omega), Nat.zero_add] at h1
  exact h1
theorem seek0 (h : ED w0 w k s fc x []) {s0 : KSt} {j k0 : Nat} {b : Int} (hl : Hel s0 s j k0 b) (hj : j < 8) :
    Calls Tryz.prog 10 #[.pointer (some ⟨k.K, 0, none⟩), .int .i64 1, .agg (callA 9 j 0 0)] w fun e2 w' => ∃ V, e2 = .returned (.agg V) ∧ ED w0 w' k (SeekTo s k0 0) fc x [] ∧ Ste s.tag w x w' x := seek_own h hl.aw hj hl.fd hl.th (by decide)
theorem ans_newT (w : World) (a : Int) (p : Option Addr) (n c : Nat) : (stR 37 (.pointer (some ⟨w.heap.size, 0, none⟩)) (.agg (ansT a (.slice p n c)))).run Tryz.prog (w.alloc (.cells #[.int .i64 0, .int .i64 0, .int .i64 0, .slice none 0 0, .slice none 0 0, .int .i64 0, .int .i64 0, .int .i64 0, .int .i64 0, .int .i64 0, .int .i64 0] 37)) = .ok () (w.alloc (.cells (ansT a (.slice p n c)) 37)) := st0_new w rfl (by kernel_rfl) (ansT_ok a p n c).2
end
end Go.Proofs.YtcdjkheelbikjaaGreatDoor
namespace Go.Proofs.YtcdjkheelbikjaaGreatDoor
open Go.RowKit
set_option linter.unusedVariables false
set_option linter.unusedSimpArgs false
section
variable {w : World} {k : KC} {s : KSt}
set_option maxHeartbeats 400000 in
theorem procsO_is (h : KT w k s) (h1 : (s.t 1).st = 1) (hz : ∀ j, j < 17 → j ≠ 1 → (s.t j).st ≠ 1) : Calls Tryz.prog 13 #[.pointer (some ⟨k.K, 0, none⟩)] w fun e w' => ∃ g cp, e = .returned (.slice (some ⟨g, 0, none⟩) 1 cp) ∧ w'.ownsRow w.heap.size 3 1 (.slice (some ⟨g, 0, none⟩) 1 cp) 1 [.int .i64 1] ∧ Below w.heap.size w w' := by
  have q7 : w.cell? ⟨k.K, 7, none⟩ = some (.pointer (some ⟨k.Pr, 0, none⟩)) := by rw [h.kr.cell (by decide), h.c7]
  have HA := Lib.hid (allP_is h.pr h1 hz)
  clear h h1 hz
  go_enter Tryz.func13, Tryz.ntmps13
  go_wp2_with (go_at_call 25; refine HA.out.mono ?_; rintro e1 w1 ⟨g, cp, rfl, hc, hb⟩; have HC := Lib.hid (And.intro hc hb); clear hc hb)
  go_ret
  exact ⟨g, cp, rfl, HC.out.1, HC.out.2⟩
set_option maxHeartbeats 400000 in
theorem eqO_is {w : World} {g b cp : Nat} (hg : w.cell? ⟨g, 0, none⟩ = some (.int .i64 1)) (hb : w.cell? ⟨b, 0, none⟩ = some (.int .i64 1)) : Calls Tryz.prog 16 #[.slice (some ⟨g, 0, none⟩) 1 cp, .slice (some ⟨b, 0, none⟩) 1 1] w fun e w' => e = .returned (.bool true) ∧ Below w.heap.size w w' := by
  have hg1 : w.drew.cell? ⟨g, 0, none⟩ = some (.int .i64 1) := hg
  have hb1 : w.drew.cell? ⟨b, 0, none⟩ = some (.int .i64 1) := hb
  go_enter Tryz.func16, Tryz.ntmps16
  go_wp2_with fail
  refine wp_loop_rounds 2 ?_
  rw [rounds_succ]
  go_upto_region 6 with fail
  go_region
  go_wp2_with fail
  rw [rounds_succ]
  go_wp2_with fail
  go_ret
  exact ⟨rfl, (Below.refl _ _).drew⟩
end
theorem own1_cell {w : World} {B g cp : Nat} (h : w.ownsRow B 3 1 (.slice (some ⟨g, 0, none⟩) 1 cp) 1 [.int .i64 1]) : w.cell? ⟨g, 0, none⟩ = some (.int .i64 1) ∧ g < w.heap.size ∧ B ≤ g := by
  rcases h.2 with ⟨e, h0⟩ | ⟨g', cap, cur, e, hB, hg, h1, h2, h3, h4⟩
  · omega
  · injection e with e1 e2 e3
    injection e1 with e1
    injection e1 with e1 _ _
    subst e1
    have hr : Row w g 3 cur := hg
    refine ⟨?_, hr.lt, hB⟩
    rw [hr.cell, ← Array.getElem?_toList]
    have := congrArg (fun l : List Value => l[0]?) h4
    simp only [List.getElem?_take] at this
    simpa using this
theorem goodO_is (w w1 : World) (hr : Row w1 w.heap.size 32 #[.int .i64 0, .int .i64 0, .int .i64 0]) : Calls Tryz.prog 15 #[.slice (some ⟨w.heap.size, 0, none⟩) 3 3] w1 fun e w' => e = .returned (.bool true) ∧ w1 = w' := good_any w.heap.size 3 [0, 0, 0] _ (by decide) (fun j hj => by
    rw [hr.cell]
    have : j = 0 ∨ j = 1 ∨ j = 2 := by simp at hj; omega
    rcases this with rfl | rfl | rfl <;> rfl)
/-- the first sixty of some bytes -/
theorem at_min60 {w : World} {l : List Int} {a : Option Addr} {n c : Nat} (h : At (Value.int .u8) 0 w (.slice a n c) l) : ∃ z : List Int, z.length ≤ 60 ∧ At (Value.int .u8) 0 w (.slice a (if 60 < (n : Int) then 60 else (n : Int)).toNat c) z := by
  have hk : (if 60 < (n : Int) then 60 else (n : Int)).toNat ≤ n ∧ (if 60 < (n : Int) then 60 else (n : Int)).toNat ≤ 60 := by split <;> omega
  generalize (if 60 < (n : Int) then 60 else (n : Int)).toNat = k at *
  obtain ⟨a', c', e, h1, h2, h3⟩ := h
  injection e with e1 e2 e3
  subst e1 e2 e3
  have hl : (l.take k).length = k := by rw [List.length_take]; omega
  refine ⟨l.take k, by omega, _, c, by rw [hl], by rw [hl]; omega, h2, ?_⟩
  rcases h3 with e | ⟨b, o, e, hb, hc⟩
  · left; rw [e]; simp
  · refine .inr ⟨b, o, e, hb, fun i hi => ?_⟩
    rw [hl] at hi
    rw [hc i (by omega)]
    congr 2
    simp [List.getD, List.getElem?_take, hi]
end Go.Proofs.YtcdjkheelbikjaaGreatDoor
