/- The kernel's do at Close; what is asked of the kernel in the law of what is held. The fork of who has a file open at some place. -/
import Derived.Test.YtlfemcbfclallaaGreatDoorHdG
import Derived.Test.YtlfemcbfclallaaGreatDoorRdC
import Derived.Test.YtlfemcbfclallaaGreatDoorHdB
namespace Go.Proofs.YtlfemcbfclallaaGreatDoor
open Go.RowKit
set_option linter.unusedVariables false
set_option linter.unusedSimpArgs false
section
variable {w0 w : World} {Out : World → Array Value → World → Prop} {k : KC} {s : KSt} {fc : FC} {x : FM} {p : Nat} {A : Array Value} {U K : Int} {a : Option Addr} {cap gc cc : Nat}
attribute [local go_sem ↓] ld_ans st_ans ld_call bd_ans
set_option maxRecDepth 100000 in
set_option maxHeartbeats 1000000 in
theorem doC_is {K : Nat} {q : Int} (ok : OutOk w0 Out) {num : Int} (hn : num = 6) (hA : A.size = 7) (ha : A[0]? = some (.int .i64 num)) (hs : Spec w0 Out 38 #[.pointer (some ⟨K, 0, none⟩), .int .i64 q, .agg A]) :
    Spec w0 Out 18 #[.pointer (some ⟨K, 0, none⟩), .int .i64 q, .agg A] := by
  intro w h0
  have hb1 := Go.Joins.below_alloc1 w (.cells A 37)
  have hal : Below w.heap.size w ((w.alloc (.cells A 37)).alloc (.cells ansZ 34)) := hb1.trans ((Go.Joins.below_alloc1 _ _).mono hb1.size)
  have hr1 := (row_new w 37 A).alloc (.cells ansZ 34)
  have hr2 := row_new (w.alloc (.cells A 37)) 34 ansZ
  rw [size_alloc1] at hr2
  have d0 : ((w.alloc (.cells A 37)).alloc (.cells ansZ 34)).cell? ⟨w.heap.size, 0, none⟩ = some (.int .i64 num) := by rw [hr1.cell, ha]
  have l2 := ld_callR hr1 hA
  have HR : Hid (Row ((w.alloc (.cells A 37)).alloc (.cells #[.int .i64 0, .int .i64 0, .int .i64 0, .slice none 0 0, .slice none 0 0, .int .i64 0, .int .i64 0, .int .i64 0, .int .i64 0, .int .i64 0, .int .i64 0] 34)) (w.heap.size + 1) 34 ansZ) := Lib.hid hr2
  have HB := Lib.hid hal
  have HC := Lib.hid (hs _ (h0.trans (hal.mono h0.size)))
  have HOK := Lib.hid ok
  have H0 := Lib.hid h0
  have HLT := Lib.hid hr2.lt
  clear hal hr1 hr2 hA hs ok h0 ha hb1
  have hz : ansZ = #[.int .i64 0, .int .i64 0, .int .i64 0, .slice none 0 0, .slice none 0 0, .int .i64 0, .int .i64 0, .int .i64 0, .int .i64 0, .int .i64 0, .int .i64 0] := rfl
  rw [hz] at d0 l2 HB HC HLT
  subst hn
  all_goals
    go_enter Tryz.func18, Tryz.ntmps18
    go_upto_region 1 with fail
    generalize (w.alloc (.cells A 37)).alloc (.cells #[.int .i64 0, .int .i64 0, .int .i64 0, .slice none 0 0, .slice none 0 0, .int .i64 0, .int .i64 0, .int .i64 0, .int .i64 0, .int .i64 0, .int .i64 0] 34) = w1 at *
    go_wp2_with (go_at_call 38; refine HC.out.mono ?_; rintro e2 w2 ⟨X, rfl, hX, hone, hu, ho⟩; have hr := ans_row H0.out HR.out (Nat.le_succ _) hu; have hst := ans_st hr hX hone; have HLD := Lib.hid (ans_ldV hr hX); have HP := Lib.hid (HOK.out.put (C := X) H0.out HB.out hu ho (Nat.le_succ _) HLT.out); have HX := Lib.hid (And.intro hX hone); clear hr hX hone hu ho; generalize w2.setRow (w.heap.size + 1) X = w3 at *)
    exact bodyPost_ret (v := .agg X) (by rw [results_cell1 rfl]; simp [asAddr, Result.andThen, HLD.out]) rfl ⟨X, rfl, HX.out.1, HX.out.2, HP.out.1, HP.out.2⟩
end
def callN (n : Int) : Array Value := #[.int .i64 n, .int .i64 0, .int .i64 0, .int .i64 0, .string ⟨#[102]⟩, .string ByteArray.empty, .slice none 0 0]
theorem bdc_N (w : World) (n : Int) : (bdC #[(0, .int .i64 n), (4, .string ⟨#[102]⟩)]).run Tryz.prog w = .ok (.agg (callN n)) w := by kernel_rfl
theorem Awake.op {s : KSt} {p q : Nat} {W : Int} {j k0 : Nat} (h : Awake s p) : Awake (OpenTo s q W j k0) p := ⟨h.p1, h.p16, h.lv, h.sl, h.sg⟩
theorem Awake.sk {s : KSt} {p k0 : Nat} {a : Int} (h : Awake s p) : Awake (SeekTo s k0 a) p := ⟨h.p1, h.p16, h.lv, h.sl, h.sg⟩
theorem Awake.cl {s : KSt} {p q j k0 : Nat} (h : Awake s p) : Awake (CloseTo s q j k0) p := ⟨h.p1, h.p16, h.lv, h.sl, h.sg⟩
section
variable {w0 w : World} {k : KC} {s : KSt} {fc : FC} {x : FM} {l : List (Nat × Array Value)} {p : Nat} {a : Option Addr} {cap gc cc : Nat} {U K : Int}
def Sty (t : Nat → Nat) (w : World) (x : FM) (w' : World) : Prop := Upd (fun j => t j ≠ 0 ∨ x.bs j ∨ w.heap.size ≤ j) w w'
theorem Sty.cell {t : Nat → Nat} {w' : World} (h : Sty t w x w') {b o : Nat} {v : Value} (hc : w.cell? ⟨b, o, none⟩ = some v) (h1 : t b = 0) (h2 : ¬ x.bs b) : w'.cell? ⟨b, o, none⟩ = some v := by
  have hlt := World.block_lt_of_cell? w _ hc
  exact (Upd.cell h hlt (fun e => by rcases e with e | e | e; exact e h1; exact h2 e; omega)).trans hc
theorem unlink_ask (h : ED w0 w k s fc x l) (haw : Awake s p) (q : Who w s p 0 127 a cap gc cc) {q0 : Nat} {z : List Int} (hf : FileZ x q0 420 z) (hz2 : z.length ≤ 256) (hh : 0 < hcn (x.held 2)) :
    Calls Tryz.prog 7 #[.pointer (some ⟨k.K, 0, none⟩), .int .i64 p, .agg (callN 13)] w fun e2 w' => ∃ (a1 b1 : Int) (pd : Option Addr) (m cd : Nat), e2 = .returned (.agg (ansV 0 a1 b1 (.slice pd m cd))) ∧ ∃ x', ED w0 (w'.alloc (.cells (ansV 0 a1 b1 (.slice pd m cd)) 34)) k s fc x' ((w'.heap.size, ansV 0 a1 b1 (.slice pd m cd)) :: l) ∧ Gone x' q0 z ∧ x'.held = x.held ∧ Sty s.tag w x w' := by
  refine (h.ask (p := p) (A := callN 13) haw rfl (fun ok => doN_is ok (.inl rfl) rfl rfl (named13_is h.kf q hf (by decide) hz2 hh rfl rfl rfl))).mono ?_
  rintro e2 w' ⟨s', x', e, a2, b2, d, dl, he2, ⟨he0, hs', hg, hh'⟩, hO, he, hdd, hft, hbs, hU⟩
  obtain ⟨pd, cd, hdv⟩ := hO.form
  subst he0
  subst hs'
  subst hdv
  exact ⟨a2, b2, pd, dl.length, cd, he2, x', he, hg, hh', hU⟩
theorem stat_ask (h : ED w0 w k s fc x l) (haw : Awake s p) (q : Who w s p 0 127 a cap gc cc) {q0 : Nat} {z : List Int} (hg : Gone x q0 z) :
    Calls Tryz.prog 7 #[.pointer (some ⟨k.K, 0, none⟩), .int .i64 p, .agg (callN 17)] w fun e2 w' => ∃ (a1 b1 : Int) (pd : Option Addr) (m cd : Nat), e2 = .returned (.agg (ansV 4 a1 b1 (.slice pd m cd))) ∧ ED w0 (w'.alloc (.cells (ansV 4 a1 b1 (.slice pd m cd)) 34)) k s fc x ((w'.heap.size, ansV 4 a1 b1 (.slice pd m cd)) :: l) ∧ Sty s.tag w x w' := by
  refine (h.ask (p := p) (A := callN 17) haw rfl (fun ok => doN_is ok (.inr (.inl rfl)) rfl rfl (namedS_is h.kf q hg.k hg.ps hg.sz (may_root hg.k hg.m0 hg.u hg.g a cap q.hc (.inl rfl)) rfl rfl rfl))).mono ?_
  rintro e2 w' ⟨s', x', e, a2, b2, d, dl, he2, ⟨he0, hs', hx'⟩, hO, he, hdd, hft, hbs, hU⟩
  obtain ⟨pd, cd, hdv⟩ := hO.form
  subst he0
  subst hs'
  subst hx'
  subst hdv
  exact ⟨a2, b2, pd, dl.length, cd, he2, he, hU⟩
theorem close_ask (h : ED w0 w k s fc x l) (haw : Awake s p) {j k0 : Nat} (hj : j < 8) (hd : s.fd (p * 8 + j) = k0 + 1) {a0 : Int} (hF : OpenLaw.thing (s.fs k0) = .agg (thF a0)) (hn : 2 ≤ (s.fs k0).n ∧ (s.fs k0).n ≤ 200) :
    Calls Tryz.prog 7 #[.pointer (some ⟨k.K, 0, none⟩), .int .i64 p, .agg (callA 6 j 0 0)] w fun e2 w' => ∃ (a1 b1 : Int) (pd : Option Addr) (m cd : Nat), e2 = .returned (.agg (ansV 0 a1 b1 (.slice pd m cd))) ∧ ED w0 (w'.alloc (.cells (ansV 0 a1 b1 (.slice pd m cd)) 34)) k (CloseTo s p j k0) fc x ((w'.heap.size, ansV 0 a1 b1 (.slice pd m cd)) :: l) ∧ Sty s.tag w x w' := by
  refine (h.ask (p := p) (A := callA 6 j 0 0) haw rfl (fun ok => doC_is ok rfl rfl rfl (specC_is h.kf haw.p1 haw.p16 hj hd hF hn rfl rfl rfl))).mono ?_
  rintro e2 w' ⟨s', x', e, a2, b2, d, dl, he2, ⟨he0, hs', hx'⟩, hO, he, hdd, hft, hbs, hU⟩
  obtain ⟨pd, cd, hdv⟩ := hO.form
  subst he0
  subst hs'
  subst hx'
  subst hdv
  exact ⟨a2, b2, pd, dl.length, cd, he2, he, hU⟩
theorem seekP_ask (h : ED w0 w k s fc x l) (haw : Awake s p) {j k0 : Nat} (hj : j < 8) (hd : s.fd (p * 8 + j) = k0 + 1) {a0 : Int} (hF : OpenLaw.thing (s.fs k0) = .agg (thF a0)) :
    Calls Tryz.prog 7 #[.pointer (some ⟨k.K, 0, none⟩), .int .i64 p, .agg (callA 9 j 0 0)] w fun e2 w' => ∃ (a1 b1 : Int) (pd : Option Addr) (m cd : Nat), e2 = .returned (.agg (ansV 0 a1 b1 (.slice pd m cd))) ∧ ED w0 (w'.alloc (.cells (ansV 0 a1 b1 (.slice pd m cd)) 34)) k (SeekTo s k0 0) fc x ((w'.heap.size, ansV 0 a1 b1 (.slice pd m cd)) :: l) ∧ Sty s.tag w x w' := by
  refine (h.ask (p := p) (A := callA 9 j 0 0) haw rfl (spec_seekZ h.kf haw.p1 haw.p16 hj hd hF rfl rfl rfl rfl (by decide))).mono ?_
  rintro e2 w' ⟨s', x', e, a2, b2, d, dl, he2, ⟨he0, hs', hx', hl⟩, hO, he, hdd, hft, hbs, hU⟩
  obtain ⟨pd, cd, hdv⟩ := hO.form
  subst he0
  subst hs'
  subst hx'
  subst hdv
  exact ⟨a2, b2, pd, dl.length, cd, he2, he, hU⟩
theorem gotP_ask (h : ED w0 w k s fc x l) (haw : Awake s p) {q0 : Nat} {z : List Int} (hf : FileR x q0 z) (hz2 : z.length ≤ 100) {j k0 : Nat} (hj : j < 8) (hd : s.fd (p * 8 + j) = k0 + 1) (hF : OpenLaw.thing (s.fs k0) = .agg (thF 0)) :
    Calls Tryz.prog 9 #[.pointer (some ⟨k.K, 0, none⟩), .int .i64 p, .int .i64 j, .int .i64 200] w fun e w' => ∃ pd m1 cd, e = .returned (.tuple #[.slice pd m1 cd, .int .i64 0]) ∧ OB w.heap.size w' (.slice pd m1 cd) z ∧ ∃ rows, ED w0 w' k (SeekTo s k0 z.length) fc x (rows ++ l) ∧ (∀ j, (Value.slice pd m1 cd).ownBlock = some j → s.tag j = 0 ∧ ¬ x.bs j) ∧ Sty s.tag w x w' := by
  refine got_is (K := k.K) (p := (p : Int)) (fd := (j : Int)) (n := 200) (P := fun w' v => OB w.heap.size w' v z ∧ ∃ rows, ED w0 w' k (SeekTo s k0 z.length) fc x (rows ++ l) ∧ (∀ j, v.ownBlock = some j → s.tag j = 0 ∧ ¬ x.bs j) ∧ Sty s.tag w x w') ?_ (fun w1 w2 v hv hb => ⟨hv.1.keep hb, by obtain ⟨-, rows, he, ht, hs⟩ := hv; exact ⟨rows, he.keep hb, ht, Upd.trans hs (Upd.below hb)⟩⟩)
  have hs := spec_readZ (A := callA 7 j 0 200) (a := 0) (n := 200) h.kf haw.p1 haw.p16 hf (by omega) hj hd hF rfl rfl rfl rfl (by decide) (by decide)
  rw [List.drop_zero, List.take_of_length_le (by omega)] at hs
  simp only [Nat.zero_add] at hs
  refine (h.ask (p := p) (A := callA 7 j 0 200) haw rfl hs).mono ?_
  rintro e2 w' ⟨s', x', e, a2, b2, d, dl, he2, ⟨he0, hdl, ha2, hs', hx'⟩, hO, he, hdd, hft, hbs, hU⟩
  obtain ⟨pd, cd, hdv⟩ := hO.form
  subst he0
  subst hx'
  subst hdl
  subst hs'
  subst hdv
  have hal := Go.Joins.below_alloc1 w' (.cells (ansV 0 a2 b2 (.slice pd dl.length cd)) 34)
  exact ⟨a2, b2, pd, _, cd, he2, hO.keep hal, [_], he, hdd, Upd.trans hU (Upd.below hal)⟩
end
end Go.Proofs.YtlfemcbfclallaaGreatDoor
namespace Go.Proofs.YtlfemcbfclallaaGreatDoor
open Go.RowKit
set_option linter.unusedVariables false
set_option linter.unusedSimpArgs false
theorem fkF_zero (fs : Nat → OpenLaw.F) (r : Nat → Nat) (n : Nat) (h : ∀ i, i < n → r i = 0) : OpenLaw.fkF fs r n = fs := by
  induction n with
  | zero => rfl
  | succ n ih =>
    rw [OpenLaw.fkF, if_pos (h n (by omega))]
    exact ih fun i hi => h i (by omega)
theorem fkF_one (fs : Nat → OpenLaw.F) (r : Nat → Nat) {j k0 : Nat} (n : Nat) (hj : j < n) (h0 : ∀ i, i < n → i ≠ j → r i = 0) (h1 : r j = k0 + 1) : OpenLaw.fkF fs r n = OpenLaw.updF fs k0 { fs k0 with n := (fs k0).n + 1 } := by
  induction n with
  | zero => omega
  | succ n ih =>
    by_cases e : n = j
    · subst e
      rw [OpenLaw.fkF, if_neg (by omega), fkF_zero fs r n (fun i hi => h0 i (by omega) (by omega)), h1, Nat.add_sub_cancel]
    · rw [OpenLaw.fkF, if_pos (h0 n (by omega) e)]
      exact ih (by omega) (fun i hi => h0 i (by omega))
theorem seek_fs (s : KSt) (j k0 : Nat) (L : Int) : (SeekTo (OpenTo s 1 3 j k0) k0 L).fs = OpenLaw.updF s.fs k0 ⟨1, 2, 3, false, L, 1⟩ := by
  funext i
  show OpenLaw.updF (OpenLaw.updF s.fs k0 ⟨1, 2, 3, false, 0, 1⟩) k0 { (OpenLaw.updF s.fs k0 ⟨1, 2, 3, false, 0, 1⟩) k0 with pos := L } i = _
  by_cases e : i = k0
  · subst e
    rw [OpenLaw.updF_same, OpenLaw.updF_same, OpenLaw.updF_same]
  · rw [OpenLaw.updF_other _ _ e, OpenLaw.updF_other _ _ e, OpenLaw.updF_other _ _ e]
structure Q2H (s : KSt) (g j k0 : Nat) (L : Int) : Prop where
  q : Q2 s g j k0
  fd1 : s.fd (1 * 8 + j) = k0 + 1
  fd2 : s.fd (2 * 8 + j) = k0 + 1
  fs : s.fs k0 = ⟨1, 2, 3, false, L, 2⟩
section
variable {w : World} {B K P Wh Fi Pr R M so sp Tb cc wb : Nat} {c : Nat → Value} {tag : Nat → Nat}
theorem frkS_spec {wz : World} (hs : KS wz B K P Wh Fi Pr R M so sp c) {k : KC} {j k0 : Nat} (hj : j < 8) (hk0 : k0 < 32) {L : Int} (h : KT w k (SeekTo (OpenTo (sS0 c tag Tb cc sp wb) 1 3 j k0) k0 L)) :
    Spec w (KOutG k tag (fun s g e a b => e = 0 ∧ a = 2 ∧ b = 0 ∧ Q2H s g j k0 L ∧ s.c 2 = c 2)) 94 #[.pointer (some ⟨k.K, 0, none⟩), .int .i64 1] := by
  have hc := hs.calm
  obtain ⟨y0, y1, y2, y3, y4, y5, y6⟩ := hs.tk
  have hfs := seek_fs (sS0 c tag Tb cc sp wb) j k0 L
  have hk1 : OpenLaw.fkF (SeekTo (OpenTo (sS0 c tag Tb cc sp wb) 1 3 j k0) k0 L).fs (fun i => OpenLaw.updN (fun _ => 0) (1 * 8 + j) (k0 + 1) (1 * 8 + i)) 8 = OpenLaw.updF (OpenLaw.updF (fun _ => OpenLaw.f0) k0 ⟨1, 2, 3, false, L, 1⟩) k0 ⟨1, 2, 3, false, L, 2⟩ := by
    rw [fkF_one (r := fun i => OpenLaw.updN (fun _ => 0) (1 * 8 + j) (k0 + 1) (1 * 8 + i)) (j := j) (k0 := k0) (n := 8) (hj := hj) (h0 := fun i hi e => OpenLaw.updN_other _ _ (by omega)) (h1 := OpenLaw.updN_same _ _ _), hfs, OpenLaw.updF_same]
    rfl
  refine kfork2_is (p := 1) (c := 2) (s1 := 1) (b := sp) (s2 := 2) h ⟨by decide, by decide, start1⟩ hs.one hs.t0 (may0 sp) (by decide) (by decide) start2 (fun j h1 h2 => by obtain rfl : j = 1 := (by omega); exact start1n) hs.tk.2.2.2.1 (bw := wb) rfl ?_ hc.2 rfl rfl (by show 1 < 1000; decide) (by decide) (fun i hi => ?_) (fun i hi => ?_) ?_
  · show c 64 = _
    rw [hs.ck 64 (by decide) (by decide) (.inr (by decide))]
    unfold kz
    kernel_rfl
  · show OpenLaw.updN (fun _ => 0) (1 * 8 + j) (k0 + 1) (2 * 8 + i) = 0
    rw [OpenLaw.updN_other _ _ (by omega)]
  · rw [hfs]
    by_cases e : i = k0
    · rw [e, OpenLaw.updF_same]; exact ⟨(by decide : (0 : Int) ≤ 1), (by decide : (1 : Int) ≤ 200)⟩
    · rw [OpenLaw.updF_other _ _ e]; exact f0n
  · intro m' nb c' tag' ad' cap' gg cp2 b5 hcr h13 h17 h18 hp1 hp2 hnb hf hco h0 hsg hsl
    refine ⟨rfl, rfl, rfl, ⟨⟨hc.other hco (by decide), ⟨hsl.trans hc.1, hsg⟩, rfl, fun i hi hij => ?_, fun i hi hik => ?_, fun i h1 h2 h3 => ?_, ⟨b5, h13⟩, ⟨cp2, h17, hp1, hp2⟩, h18⟩, ?_, ?_, ?_⟩, hco 2 (by decide)⟩
    · show OpenLaw.cpD (OpenLaw.updN (fun _ => 0) (1 * 8 + j) (k0 + 1)) 1 2 8 (2 * 8 + i) = 0
      rw [OpenLaw.cpD_at, if_pos (by omega), OpenLaw.updN_other _ _ (by omega)]
    · show (OpenLaw.fkF (SeekTo (OpenTo (sS0 c tag Tb cc sp wb) 1 3 j k0) k0 L).fs (fun i => OpenLaw.updN (fun _ => 0) (1 * 8 + j) (k0 + 1) (1 * 8 + i)) 8 i).n = 0
      rw [hk1, OpenLaw.updF_other _ _ hik, OpenLaw.updF_other _ _ hik]
    · refine (hcr i h1 h2 h3).trans ?_
      show c (8 + 1 * 38 + i) = _
      have : i = 11 ∨ i = 12 ∨ i = 14 ∨ i = 15 ∨ i = 16 := by omega
      rcases this with rfl | rfl | rfl | rfl | rfl
      · exact y1
      · exact y2
      · exact y4
      · exact y5
      · exact y6
    · show OpenLaw.cpD (OpenLaw.updN (fun _ => 0) (1 * 8 + j) (k0 + 1)) 1 2 8 (1 * 8 + j) = k0 + 1
      rw [OpenLaw.cpD_at, if_neg (by omega), OpenLaw.updN_same]
    · show OpenLaw.cpD (OpenLaw.updN (fun _ => 0) (1 * 8 + j) (k0 + 1)) 1 2 8 (2 * 8 + j) = k0 + 1
      rw [OpenLaw.cpD_at, if_pos (by omega), show 1 * 8 + (2 * 8 + j - 2 * 8) = 1 * 8 + j by omega, OpenLaw.updN_same]
    · show OpenLaw.fkF (SeekTo (OpenTo (sS0 c tag Tb cc sp wb) 1 3 j k0) k0 L).fs (fun i => OpenLaw.updN (fun _ => 0) (1 * 8 + j) (k0 + 1) (1 * 8 + i)) 8 k0 = _
      rw [hk1, OpenLaw.updF_same]
end
section
variable {w0 w : World} {k : KC} {s : KSt} {fc : FC} {x : FM} {l : List (Nat × Array Value)} {p : Nat} {A : Array Value}
theorem ED.askF {T : KSt → FM → Nat → Int → Int → Int → Prop} (h : ED w0 w k s fc x l) (haw : Awake s p) (hA : A.size = 7) (hs : OutOk w (KOutF w.heap.size k fc s.tag x.bs T) → Spec w (KOutF w.heap.size k fc s.tag x.bs T) 18 #[.pointer (some ⟨k.K, 0, none⟩), .int .i64 p, .agg A]) :
    Calls Tryz.prog 7 #[.pointer (some ⟨k.K, 0, none⟩), .int .i64 p, .agg A] w fun e2 w' => ∃ s' x' g e a b, e2 = .returned (.agg (ansV e a b (.slice none 0 0))) ∧ T s' x' g e a b ∧ ED w0 (w'.alloc (.cells (ansV e a b (.slice none 0 0)) 34)) k s' fc x' ((w'.heap.size, ansV e a b (.slice none 0 0)) :: l) ∧ (w'.alloc (.cells (ansV e a b (.slice none 0 0)) 34)).cell? ⟨g, 0, none⟩ = some (.int .i64 1) := by
  have ok := koutF_ok (k := k) (fc := fc) (w0 := w) (tag0 := s.tag) (bs0 := x.bs) h.kf.kt.tz h.kf.fs.lt T
  refine (askP_is ok (Below.refl _ _) h.kf.kt haw hA (hs ok)).mono ?_
  rintro e2 w' ⟨X, rfl, hX, hone, hu, s', x', g, e, a, b, hk, hf, hx, hg, hgl, rfl, hT, hU⟩
  obtain ⟨s2, x2, e', a', b', d', dl, hXe, ⟨q1, q2, q3⟩, hO, he, -⟩ := h.asked (X := ansV e a b (.slice none 0 0)) (T := fun s2 x2 _ _ _ l2 => s2 = s' ∧ x2 = x' ∧ l2 = []) ⟨s', x', e, a, b, .slice none 0 0, [], hk, hf, hx, rfl, OB.nil _ _, (fun j e => by cases e), ⟨rfl, rfl, rfl⟩, hU⟩
  subst q1
  subst q2
  exact ⟨s2, x2, g, e, a, b, rfl, hT, he, by
    rw [World.cell?_alloc_lt (h := World.block_lt_of_cell? w' _ hg)]
    exact hg⟩
theorem fork_ask {wz : World} {B K P Wh Fi Pr R M so sp Tb cc wb : Nat} {c : Nat → Value} {tag : Nat → Nat} (hs : KS wz B K P Wh Fi Pr R M so sp c) {j k0 : Nat} (hj : j < 8) (hk0 : k0 < 32) {L : Int} (hs' : s = SeekTo (OpenTo (sS0 c tag Tb cc sp wb) 1 3 j k0) k0 L) (h : ED w0 w k s fc x l) (haw : Awake s 1) :
    Calls Tryz.prog 7 #[.pointer (some ⟨k.K, 0, none⟩), .int .i64 1, .agg (callA 2 0 0 0)] w fun e2 w' => ∃ s2 g, e2 = .returned (.agg (ansV 0 2 0 (.slice none 0 0))) ∧ Q2H s2 g j k0 L ∧ s2.tag g = 0 ∧ ¬ x.bs g ∧ ED w0 (w'.alloc (.cells (ansV 0 2 0 (.slice none 0 0)) 34)) k s2 fc x ((w'.heap.size, ansV 0 2 0 (.slice none 0 0)) :: l) ∧ (w'.alloc (.cells (ansV 0 2 0 (.slice none 0 0)) 34)).cell? ⟨g, 0, none⟩ = some (.int .i64 1) := by
  have hkt := h.kf.kt
  subst hs'
  refine (h.askF (p := 1) (A := callA 2 0 0 0) haw rfl (fun ok => doP_is ok (.inr (.inl rfl)) rfl rfl (proc_fork (by decide) (by decide) ok rfl rfl (fork_spec h.kf (frkS_spec hs hj hk0 hkt) (fun _ _ _ _ _ q => q.2.2.2.2))))).mono ?_
  rintro e2 w' ⟨s2, x2, g, e, a, b, rfl, ⟨rfl, hgt, hgb, rfl, rfl, rfl, hq, -⟩, he, hg⟩
  exact ⟨s2, g, rfl, hq, hgt, hgb, he, hg⟩
end
end Go.Proofs.YtlfemcbfclallaaGreatDoor
