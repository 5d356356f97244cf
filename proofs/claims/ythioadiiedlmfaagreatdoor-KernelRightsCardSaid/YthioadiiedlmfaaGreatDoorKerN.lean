/- The six calls of the law of ends: what each may come to. A law under way: the kernel's state, and the answers that were given. The law of rights under way: the kernel with its file system, the answers' rows; how it asks. A kernel that has begun, as one state. Printed by gen_kerx2.py. The states of the law of rights, and what its five calls come to. A number's last eight bits. No program here. -/
import Derived.Test.YthioadiiedlmfaaGreatDoorKerY
import Derived.Test.YthioadiiedlmfaaGreatDoorKfG
import Derived.Test.YthioadiiedlmfaaGreatDoorFsA
import Derived.Test.YthioadiiedlmfaaGreatDoorBits
namespace Go.Proofs.YthioadiiedlmfaaGreatDoor
open Go.RowKit
set_option linter.unusedVariables false
set_option linter.unusedSimpArgs false
section
variable {w0 w : World} {B K P Wh Fi Pr R M so sp T cc wb : Nat} {c : Nat → Value} {tag : Nat → Nat} {k : KC}
theorem start1 : (ProcLaw.start 1).st = 1 := by decide
theorem start1n : (ProcLaw.start 1).st ≠ 0 := by decide
theorem start2 : (ProcLaw.start 2).st = 0 := by decide
theorem f0n : 0 ≤ OpenLaw.f0.n ∧ OpenLaw.f0.n ≤ 200 := by decide
theorem ask_fork {wz : World} (hs : KS wz B K P Wh Fi Pr R M so sp c) (h : KT w k (sS0 c tag T cc sp wb)) (hk : k = ⟨K, Wh, Fi, Pr, R, M, so⟩) :
    Spec w (KOut w.heap.size k tag (fun s e a b => e = 0 ∧ a = 2 ∧ b = 0 ∧ ∃ nb, P1 s nb)) 93 #[.pointer (some ⟨k.K, 0, none⟩), .int .i64 1] := by
  have hc := hs.calm
  refine kfork_is (p := 1) (c := 2) (s1 := 1) (b := sp) (s2 := 2) h ⟨by decide, by decide, start1⟩ hs.one hs.t0 (may0 sp) (by decide) (by decide) start2 (fun j h1 h2 => by obtain rfl : j = 1 := (by omega); exact start1n) hs.tk.2.2.2.1 (bw := wb) rfl ?_ hc.2 rfl rfl (by show 1 < 1000; decide) (by decide) (fun _ _ => rfl) (fun _ _ => f0n) ?_
  · show c 64 = _
    rw [hs.ck 64 (by decide) (by decide) (.inr (by decide))]
    unfold kz
    kernel_rfl
  · intro m' nb c' tag' ad' cap' hnb hf hco h0 hsg hsl
    refine ⟨rfl, rfl, rfl, nb, ?_⟩
    have hnsp : nb ≠ sp := fun e => by
      have := h.me.lt (k := sp) (.inr (.inr (.inr (.inl ⟨1, rfl⟩))))
      omega
    refine ⟨hc.other hco (by decide), ⟨hsl.trans hc.1, hsg⟩, h0, fun j hj => ?_, rfl, rfl, l1_is, by rw [hf.S]; exact if_pos rfl, fun q => by rw [hf.F, fup_same]; rfl, ?_, hf.pl⟩
    · show OpenLaw.cpD _ 1 2 8 (2 * 8 + j) = 0
      rw [OpenLaw.cpD_at]
      split <;> rfl
    · exact Nat.le_zero.1 hf.nFn
variable {s : KSt} {nb n p : Nat} {A : Array Value}
theorem ask_map (h : KT w0 k s) (q : P1 s nb) (hA : A.size = 7) (ha : A[0]? = some (.int .i64 23)) (ha1 : A[1]? = some (.int .i64 3)) (ha2 : A[2]? = some (.int .i64 n)) (ha3 : A[3]? = some (.int .i64 3)) (hn : 1 ≤ n) (hn' : n ≤ 20) :
    Spec w0 (KOut w0.heap.size k s.tag (fun s' e a b => e = 0 ∧ P2 n s' nb)) 38 #[.pointer (some ⟨k.K, 0, none⟩), .int .i64 2, .agg A] := by
  refine proc_map (p := 2) h (by decide) (by decide) hA ha ha1 ha2 ha3 (s1 := 2) (b := nb) q.sp q.S (by decide) (by decide) hn (by omega) (by decide) (by decide) (fun j _ => q.F _) (by rw [q.pl]; simp; omega) (by rw [q.pl]; simp; omega) (by rw [q.nF]; decide) ?_
  intro B0 m' new tag' hlen g
  have hpl : m'.pl = new := by rw [g.pl, q.pl, List.nil_append]
  refine ⟨rfl, q.c1, q.c2, q.sp, q.fd, q.cw, q.t, q.l, by rw [g.S]; exact q.S, fun x => ?_, by rw [hpl, hlen], fun y hy => (g.nd y (by rwa [hpl] at hy)).2.1, fun y hy => (g.nd y (by rwa [hpl] at hy)).2.2⟩
  show m'.F nb x = _
  rw [g.F, fup_same, hpl, hlen, q.F]
theorem t1_st (j : Nat) : (t1 j).st ≠ 2 := by
  unfold t1 ProcLaw.forked ProcLaw.updE ProcLaw.start
  split
  · decide
  · unfold ProcLaw.updE
    split
    · decide
    · exact (by decide : ProcLaw.e0.st ≠ 2)
theorem t1_1 : (t1 1).st = 1 := by decide
theorem t1_2 : (t1 2).st = 1 ∧ (t1 2).par = 1 := by decide
theorem ask_wait1 (h : KT w0 k s) (q : P2 n s nb) (hA : A.size = 7) (ha : A[0]? = some (.int .i64 4)) :
    Spec w0 (KOut w0.heap.size k s.tag (fun s' e a b => e = 9 ∧ P2 n s' nb)) 38 #[.pointer (some ⟨k.K, 0, none⟩), .int .i64 1, .agg A] := by
  refine proc_wait (p := 1) h (by decide) (by decide) hA ha ?_
  rintro r c en t' (⟨_, rfl, hx⟩ | ⟨_, j, _, _, _, _, _, hj, _⟩)
  · refine ⟨?_, q.c1, q.c2, q.sp, q.fd, q.cw, q.t, q.l, q.S, q.F, q.ln, q.u, q.h⟩
    rcases hx with hx | ⟨_, ⟨e, _⟩ | ⟨_, hx⟩⟩
    · exact absurd (ProcLaw.livR_alive ⟨by decide, by decide, by rw [q.t]; exact t1_1⟩) hx
    · exact e
    · exact absurd ⟨2, by decide, by rw [q.t]; decide, by rw [q.t]; exact t1_2.2⟩ hx
  · rw [q.t] at hj
    exact absurd hj (t1_st j)
/-- the table behind the child's end, and behind the wait for it -/
def t2 (x : Int) : ProcLaw.T := ProcLaw.ended t1 2 x
def t3 (x : Int) : ProcLaw.T := ProcLaw.updE (t2 x) 2 ProcLaw.e0
theorem t2_2 (x : Int) : t2 x 2 = ⟨2, 1, 1, x⟩ := by
  unfold t2 ProcLaw.ended
  rw [ProcLaw.updE_same]
  have h : (ProcLaw.lost t1 2 17 2).par = 1 ∧ (ProcLaw.lost t1 2 17 2).gr = 1 := by decide
  rw [h.1, h.2]
theorem t2_1 (x : Int) : (t2 x 1).st = 1 := by
  unfold t2 ProcLaw.ended
  rw [ProcLaw.updE_other _ _ (by decide)]
  decide
theorem t2_st (x : Int) {j : Nat} (h : (t2 x j).st = 2) : j = 2 := by
  by_cases e : j = 2
  · exact e
  · unfold t2 ProcLaw.ended at h
    rw [ProcLaw.updE_other _ _ e, ProcLaw.lost_st] at h
    exact absurd h (t1_st j)
theorem t1_par {j : Nat} (h : (t1 j).st ≠ 0) : j = 1 ∨ j = 2 := by
  by_cases e : j = 2
  · exact .inr e
  by_cases e1 : j = 1
  · exact .inl e1
  unfold t1 ProcLaw.forked ProcLaw.start at h
  rw [ProcLaw.updE_other _ _ e, ProcLaw.updE_other _ _ e1] at h
  exact absurd (by decide : ProcLaw.e0.st = 0) h
theorem t3_par (x : Int) {j : Nat} (h : (t3 x j).st ≠ 0) : j = 1 := by
  by_cases e : j = 2
  · subst e
    unfold t3 at h
    rw [ProcLaw.updE_same] at h
    exact absurd (by decide : ProcLaw.e0.st = 0) h
  · unfold t3 t2 ProcLaw.ended at h
    rw [ProcLaw.updE_other _ _ e, ProcLaw.updE_other _ _ e, ProcLaw.lost_st] at h
    exact (t1_par h).resolve_right e
theorem t3_1 (x : Int) : (t3 x 1).st = 1 ∧ (t3 x 1).par = 0 := by
  unfold t3 t2 ProcLaw.ended
  rw [ProcLaw.updE_other _ _ (by decide), ProcLaw.updE_other _ _ (by decide)]
  decide
theorem ask_exit (h : KT w0 k s) (q : P2 n s nb) (hn : n ≤ 20) (x : Int) :
    SpecE w0 (KOut w0.heap.size k s.tag (fun s' e a b => e = 0 ∧ P3 (t2 (bits .and .i64 x 255)) s')) 34 #[.pointer (some ⟨k.K, 0, none⟩), .int .i64 2, .int .i64 x] := by
  have hF : ∀ y g r, s.m.F nb y = some (g, r) → 3 ≤ y ∧ s.m.pl[(y - 3).toNat]? = some g := fun y g r hy => by
    rw [q.F] at hy
    split at hy
    · rename_i hr
      refine ⟨hr.1, ?_⟩
      cases hg : s.m.pl[(y - 3).toNat]? with
      | none => rw [hg] at hy; cases hy
      | some g' =>
        rw [hg] at hy
        simp only [Option.map_some, Option.some.injEq, Prod.mk.injEq] at hy
        rw [hy.1]
    · cases hy
  refine kexit_is (p := 2) (q := 1) (i := 1) (b := nb) (s1 := 2) h ⟨by decide, by decide, by rw [q.t]; exact t1_2.1⟩ (by decide) q.sp q.S (by decide) (fun y y' g r r' hy hy' => ?_) (fun y g r hy => ?_) (by rw [q.ln]; omega) q.fd (by rw [q.l]; rfl) q.cw (by rw [q.t]; exact congrArg ProcLaw.E.par (t2_2 _)) (by decide) (by decide) (by decide) (by rw [q.t]; exact t2_1 _) q.c1.1 q.c1.2 ?_
  · obtain ⟨a1, b1⟩ := hF y g r hy
    obtain ⟨a2, b2⟩ := hF y' g r' hy'
    have l1 := (List.getElem?_eq_some_iff.1 b1).1
    have := (List.getElem?_inj l1 h.me.nd).1 (b1.trans b2.symm)
    omega
  · obtain ⟨a1, b1⟩ := hF y g r hy
    have hm := List.mem_of_getElem? b1
    exact ⟨hm, q.u g hm⟩
  · intro m' left c' tag' ad' cap' hleft hpl hnS hFF hnF hh hu hco
    refine ⟨rfl, q.c1.other hco (by decide), by rw [q.t]; rfl, ?_⟩
    show m'.pl = []
    rw [hpl]
    unfold kept
    refine List.filter_eq_nil_iff.2 fun g hg => ?_
    obtain ⟨i, hi⟩ := List.mem_iff_getElem?.1 hg
    have l1 := (List.getElem?_eq_some_iff.1 hi).1
    have : met (s.m.F nb) left g = true := met_iff.2 ⟨3 + (i : Int), 3, by
      rw [q.F, if_pos (by have := q.ln; omega), show ((3 : Int) + i - 3).toNat = i by omega, hi]; rfl, hleft _⟩
    rw [this]
    simp
theorem ask_wait2 {x : Int} (h : KT w0 k s) (q : P3 (t2 x) s) (hA : A.size = 7) (ha : A[0]? = some (.int .i64 4)) :
    Spec w0 (KOut w0.heap.size k s.tag (fun s' e a b => e = 0 ∧ a = 2 ∧ b = x ∧ P3 (t3 x) s')) 38 #[.pointer (some ⟨k.K, 0, none⟩), .int .i64 1, .agg A] := by
  refine proc_wait (p := 1) h (by decide) (by decide) hA ha ?_
  have z : s.t 2 = ⟨2, 1, 1, x⟩ := by rw [q.t]; exact t2_2 x
  rintro r c en t' (⟨_, rfl, hx⟩ | ⟨rfl, j, p', hr, _, hp', _, hj, _, _, hcd, rfl⟩)
  · rcases hx with hx | ⟨hx, _⟩
    · exact absurd (ProcLaw.livR_alive ⟨by decide, by decide, by rw [q.t]; exact t2_1 x⟩) hx
    · exact absurd ⟨by rw [z]; rfl, by rw [z]⟩ (hx 2 (by decide))
  · rw [q.t] at hj
    obtain rfl := t2_st x hj
    refine ⟨rfl, hr, by rw [hcd, z], q.c1, ?_, q.pl⟩
    show ProcLaw.updE s.t 2 _ = _
    rw [q.t]; rfl
theorem ask_wait3 {x : Int} (h : KT w0 k s) (q : P3 (t3 x) s) (hA : A.size = 7) (ha : A[0]? = some (.int .i64 4)) :
    Spec w0 (KOut w0.heap.size k s.tag (fun s' e a b => e = 4 ∧ P3 (t3 x) s')) 38 #[.pointer (some ⟨k.K, 0, none⟩), .int .i64 1, .agg A] := by
  refine proc_wait (p := 1) h (by decide) (by decide) hA ha ?_
  rintro r c en t' (⟨_, rfl, hx⟩ | ⟨_, j, _, _, _, _, _, hj, _⟩)
  · refine ⟨?_, q.c1, q.t, q.pl⟩
    rcases hx with hx | ⟨_, ⟨_, j, _, hj, hjp⟩ | ⟨e, _⟩⟩
    · exact absurd (ProcLaw.livR_alive ⟨by decide, by decide, by rw [q.t]; exact (t3_1 x).1⟩) hx
    · rw [q.t] at hj hjp
      obtain rfl := t3_par x hj
      rw [(t3_1 x).2] at hjp
      exact absurd hjp (by decide)
    · exact e
  · rw [q.t] at hj
    obtain rfl := t3_par x (by rw [hj]; decide)
    rw [(t3_1 x).1] at hj
    exact absurd hj (by decide)
end
end Go.Proofs.YthioadiiedlmfaaGreatDoor
namespace Go.Proofs.YthioadiiedlmfaaGreatDoor
open Go.RowKit
set_option linter.unusedVariables false
set_option linter.unusedSimpArgs false
def callA (n a b c : Int) : Array Value := #[.int .i64 n, .int .i64 a, .int .i64 b, .int .i64 c, .string ByteArray.empty, .string ByteArray.empty, .slice none 0 0]
def bdC (ps : Array (Nat × Value)) : Sem Value := Instr.build 36 ps
theorem bd_call (ps : Array (Nat × Value)) : Instr.build 36 ps = bdC ps := rfl
theorem bdc_0 (w : World) (n : Int) : (bdC #[(0, .int .i64 n)]).run Tryz.prog w = .ok (.agg (callA n 0 0 0)) w := by kernel_rfl
theorem bdc_1 (w : World) (n a : Int) : (bdC #[(0, .int .i64 n), (1, .int .i64 a)]).run Tryz.prog w = .ok (.agg (callA n a 0 0)) w := by kernel_rfl
theorem bdc_3 (w : World) (n a b c : Int) : (bdC #[(0, .int .i64 n), (1, .int .i64 a), (2, .int .i64 b), (3, .int .i64 c)]).run Tryz.prog w = .ok (.agg (callA n a b c)) w := by kernel_rfl
/-- the law under way: the kernel's state, the answers' rows -/
structure EL (w0 w : World) (k : KC) (s : KSt) (l : List (Nat × Array Value)) : Prop where
  kt : KT w k s
  hb : Below w0.heap.size w0 w
  lo : ∀ j, s.tag j ≠ 0 → w0.heap.size ≤ j
  rows : ∀ p, p ∈ l → Row w p.1 33 p.2 ∧ s.tag p.1 = 0
section
variable {w0 w w1 w' : World} {k : KC} {s : KSt} {l : List (Nat × Array Value)} {T : KSt → Int → Int → Int → Prop} {X : Array Value} {p : Nat} {A : Array Value}
theorem EL.keep (h : EL w0 w k s l) (hb : Below w.heap.size w w') : EL w0 w' k s l := ⟨h.kt.keep hb, h.hb.trans (hb.mono h.hb.size), h.lo, fun p hp => ⟨(h.rows p hp).1.keep hb, (h.rows p hp).2⟩⟩
theorem EL.asked (h : EL w0 w k s l) (hb : Below w.heap.size w w1) (ho : KOut w.heap.size k s.tag T w1 X w') : ∃ s' e a b, X = ansV e a b (.slice none 0 0) ∧ T s' e a b ∧ EL w0 (w'.alloc (.cells X 33)) k s' ((w'.heap.size, X) :: l) := by
  obtain ⟨s', e, a, b, hk, hf, rfl, hT, hU⟩ := ho
  have z0 := h.hb.size
  have z1 := hb.size
  have z2 := hU.size
  have hU' : Upd (fun j => s.tag j ≠ 0) w w' := (Upd.below hb).trans hU
  have al := Go.Joins.below_alloc1 w' (.cells (ansV e a b (.slice none 0 0)) 33)
  refine ⟨s', e, a, b, rfl, hT, hk.keep al, (h.hb.trans (hU'.toBelow z0 (fun j hj q => by have := h.lo j q; omega))).trans (al.mono (by omega)), fun j hj => ?_, fun q hq => ?_⟩
  · rcases hf j hj with q | q
    · exact h.lo j q
    · omega
  · rcases List.mem_cons.1 hq with rfl | hq
    · exact ⟨row_new _ _ _, hk.tz _ (Nat.le_refl _)⟩
    · obtain ⟨r1, r2⟩ := h.rows q hq
      refine ⟨(r1.upd hU' (fun e => e r2)).keep al, ?_⟩
      cases Nat.eq_zero_or_pos (s'.tag q.1) with
      | inl e => exact e
      | inr e =>
        rcases hf q.1 (by omega) with e2 | e2
        · exact absurd r2 e2
        · have := r1.lt; omega
theorem EL.ask (h : EL w0 w k s l) (haw : Awake s p) (hA : A.size = 7) {num : Int} (hn : num = 1 ∨ num = 2 ∨ num = 4 ∨ num = 23) (ha : A[0]? = some (.int .i64 num)) (hs : Spec w (KOut w.heap.size k s.tag T) 38 #[.pointer (some ⟨k.K, 0, none⟩), .int .i64 p, .agg A]) :
    Calls Tryz.prog 6 #[.pointer (some ⟨k.K, 0, none⟩), .int .i64 p, .agg A] w fun e2 w' => ∃ s' e a b, e2 = .returned (.agg (ansV e a b (.slice none 0 0))) ∧ T s' e a b ∧ EL w0 (w'.alloc (.cells (ansV e a b (.slice none 0 0)) 33)) k s' ((w'.heap.size, ansV e a b (.slice none 0 0)) :: l) := by
  have ok := kout_ok (k := k) (w0 := w) (tag0 := s.tag) h.kt.tz T
  refine (askP_is ok (Below.refl _ _) h.kt haw hA (doP_is ok hn hA ha hs)).mono ?_
  rintro e2 w' ⟨X, rfl, hX, hone, hu, ho⟩
  obtain ⟨s', e, a, b, rfl, hT, hel⟩ := h.asked (Below.refl _ _) ho
  exact ⟨s', e, a, b, rfl, hT, hel⟩
theorem ans_new (w : World) (e a b : Int) : (stR 33 (.pointer (some ⟨w.heap.size, 0, none⟩)) (.agg (ansV e a b (.slice none 0 0)))).run Tryz.prog (w.alloc (.cells #[.int .i64 0, .int .i64 0, .int .i64 0, .slice none 0 0, .slice none 0 0, .int .i64 0, .int .i64 0, .int .i64 0, .int .i64 0, .int .i64 0, .int .i64 0] 33)) = .ok () (w.alloc (.cells (ansV e a b (.slice none 0 0)) 33)) := st0_new w rfl (by kernel_rfl) (ansV_one _ _ _ rfl)
end
end Go.Proofs.YthioadiiedlmfaaGreatDoor
namespace Go.Proofs.YthioadiiedlmfaaGreatDoor
open Go.RowKit
set_option linter.unusedVariables false
set_option linter.unusedSimpArgs false
structure EF (w0 w : World) (k : KC) (s : KSt) (fc : FC) (x : FM) (l : List (Nat × Array Value)) : Prop where
  kf : KF w k s fc x
  hb : Below w0.heap.size w0 w
  lo : ∀ j, s.tag j ≠ 0 → w0.heap.size ≤ j
  lb : ∀ j, x.bs j → w0.heap.size ≤ j
  rows : ∀ p, p ∈ l → Row w p.1 33 p.2 ∧ s.tag p.1 = 0 ∧ ¬ x.bs p.1
section
variable {w0 w w1 w' : World} {k : KC} {s : KSt} {fc : FC} {x : FM} {l : List (Nat × Array Value)} {T : KSt → FM → Nat → Int → Int → Int → Prop} {X : Array Value} {p : Nat} {A : Array Value}
theorem EF.keep (h : EF w0 w k s fc x l) (hb : Below w.heap.size w w') : EF w0 w' k s fc x l := ⟨h.kf.keep hb, h.hb.trans (hb.mono h.hb.size), h.lo, h.lb, fun p hp => ⟨(h.rows p hp).1.keep hb, (h.rows p hp).2⟩⟩
theorem EF.asked (h : EF w0 w k s fc x l) (ho : KOutF w.heap.size k fc s.tag x.bs T w X w') : ∃ s' x' g e a b, X = ansV e a b (.slice none 0 0) ∧ T s' x' g e a b ∧ EF w0 (w'.alloc (.cells X 33)) k s' fc x' ((w'.heap.size, X) :: l) ∧ (w'.alloc (.cells X 33)).cell? ⟨g, 0, none⟩ = some (.int .i64 1) := by
  obtain ⟨s', x', g, e, a, b, hk, hf, hx, hg, hgl, rfl, hT, hU⟩ := ho
  have z0 := h.hb.size
  have z2 := hU.size
  have al := Go.Joins.below_alloc1 w' (.cells (ansV e a b (.slice none 0 0)) 33)
  refine ⟨s', x', g, e, a, b, rfl, hT, ⟨hk.keep al, (h.hb.trans (hU.toBelow z0 (fun j hj q => ?_))).trans (al.mono (by omega)), fun j hj => ?_, fun j hj => ?_, fun q hq => ?_⟩, (al.cell (p := ⟨g, 0, none⟩) (World.block_lt_of_cell? w' _ hg)).trans hg⟩
  · rcases q with q | q | q
    · have := h.lo j q; omega
    · have := h.lb j q; omega
    · omega
  · rcases hf j hj with q | q
    · exact h.lo j q
    · omega
  · rcases hx j hj with q | q
    · exact h.lb j q
    · omega
  · rcases List.mem_cons.1 hq with rfl | hq
    · exact ⟨row_new _ _ _, hk.kt.tz _ (Nat.le_refl _), fun e => by have := hk.fs.lt _ e; omega⟩
    · obtain ⟨r1, r2, r3⟩ := h.rows q hq
      have hlt := r1.lt
      refine ⟨(r1.upd hU (fun e => ?_)).keep al, ?_, fun e => ?_⟩
      · rcases e with e | e | e
        · exact e r2
        · exact r3 e
        · omega
      · cases Nat.eq_zero_or_pos (s'.tag q.1) with
        | inl e => exact e
        | inr e =>
          rcases hf q.1 (by omega) with e2 | e2
          · exact absurd r2 e2
          · omega
      · rcases hx q.1 e with e2 | e2
        · exact r3 e2
        · omega
theorem EF.ask (h : EF w0 w k s fc x l) (haw : Awake s p) (hA : A.size = 7) (hs : OutOk w (KOutF w.heap.size k fc s.tag x.bs T) → Spec w (KOutF w.heap.size k fc s.tag x.bs T) 16 #[.pointer (some ⟨k.K, 0, none⟩), .int .i64 p, .agg A]) :
    Calls Tryz.prog 6 #[.pointer (some ⟨k.K, 0, none⟩), .int .i64 p, .agg A] w fun e2 w' => ∃ s' x' g e a b, e2 = .returned (.agg (ansV e a b (.slice none 0 0))) ∧ T s' x' g e a b ∧ EF w0 (w'.alloc (.cells (ansV e a b (.slice none 0 0)) 33)) k s' fc x' ((w'.heap.size, ansV e a b (.slice none 0 0)) :: l) ∧ (w'.alloc (.cells (ansV e a b (.slice none 0 0)) 33)).cell? ⟨g, 0, none⟩ = some (.int .i64 1) := by
  have ok := koutF_ok (k := k) (fc := fc) (w0 := w) (tag0 := s.tag) (bs0 := x.bs) h.kf.kt.tz h.kf.fs.lt T
  refine (askP_is ok (Below.refl _ _) h.kf.kt haw hA (hs ok)).mono ?_
  rintro e2 w' ⟨X, rfl, hX, hone, hu, ho⟩
  obtain ⟨s', x', g, e, a, b, rfl, hT, hel, hg⟩ := h.asked ho
  exact ⟨s', x', g, e, a, b, rfl, hT, hel, hg⟩
/-- a fork leaves the file system -/
theorem fork_spec {T : KSt → Nat → Int → Int → Int → Prop} (h : KF w k s fc x) (hs : Spec w (KOutG k s.tag T) 93 #[.pointer (some ⟨k.K, 0, none⟩), .int .i64 p]) (hc2 : ∀ s' g e a b, T s' g e a b → s'.c 2 = s.c 2) :
    Spec w (KOutF w.heap.size k fc s.tag x.bs (fun s' x' g e a b => x' = x ∧ s'.tag g = 0 ∧ ¬ x.bs g ∧ T s' g e a b)) 93 #[.pointer (some ⟨k.K, 0, none⟩), .int .i64 p] := by
  intro w1 h1
  refine (hs w1 h1).mono ?_
  rintro e w' ⟨X, rfl, hX, hone, hu, s', g, e, a, b, hk, hf, hg, hgl, hgt, rfl, hT, hU⟩
  have z := h1.size
  have hlt := h.fs.lt
  refine ⟨_, rfl, hX, hone, hu, s', x, g, e, a, b, ⟨hk, (hc2 _ _ _ _ _ hT).trans h.c2, (h.fs.keep h1).upd hU (fun j hj e => e (h.sep j hj)), fun j hj => ?_⟩, hf, fun j e => .inl e, hg, .inr hgl, rfl, ⟨rfl, hgt, fun e => by have := hlt _ e; omega, hT⟩, hU.mono fun i _ e => .inl e⟩
  cases Nat.eq_zero_or_pos (s'.tag j) with
  | inl e => exact e
  | inr e =>
    rcases hf j (by omega) with q | q
    · exact absurd (h.sep j hj) q
    · have := hlt j hj; omega
end
end Go.Proofs.YthioadiiedlmfaaGreatDoor
namespace Go.Proofs.YthioadiiedlmfaaGreatDoor
open Go.RowKit
set_option linter.unusedVariables false
set_option linter.unusedSimpArgs false
theorem KS.toKT2 {w : World} {B K P Wh Fi Pr R M so sp : Nat} {c : Nat → Value} (h : KS w B K P Wh Fi Pr R M so sp c) : ∃ tag T cc wb, KT w ⟨K, Wh, Fi, Pr, R, M, so⟩ (sS0 c tag T cc sp wb) ∧ c 63 = .slice (some ⟨wb, 0, none⟩) 1 1 ∧ ∀ j, tag j ≠ 0 → B ≤ j ∧ (j ≤ M ∨ sp ≤ j) := by
  obtain ⟨T, cc, hru, hspT⟩ := h.ru
  obtain ⟨wb, hc63, hwb, hspw⟩ := h.wd
  obtain ⟨T', C, e, hT⟩ := hru.rows (by decide)
  injection e with e
  injection e with e
  subst e
  have hTw : T ≠ wb := fun e => by
    have r1 := hT.row
    have r2 := hwb
    rw [e] at r1
    have r3 : some (Obj.cells C 186) = some (Obj.cells #[.int .i64 1] 3) := r1.symm.trans r2
    injection r3 with r3
    injection r3 with _ r4
    exact absurd r4 (by decide)
  have b := h.kp.b
  have o := h.or
  refine ⟨fun j => if j = K then 1 else if j = Wh then 2 else if j = Fi then 3 else if j = Pr then 4 else if j = R ∨ j = T then 5 else if j = M ∨ j = so ∨ j = sp then 6 else if j = wb then 7 else 0, T, cc, wb, ⟨h.kr, h.c1, h.c4, h.c5, h.c6, h.c7, h.kp.wh, h.kp.fi, h.kp.pr, hru, mem0 h.mm h.om h.im o.2.2.1 o.2.2.2, fun p q hq => ?_, ?_, ?_, ?_, ?_, fun j hj => ?_, fun j hj => ?_, fun j hj => ?_⟩, hc63, fun j hj => ⟨?_, ?_⟩⟩
  · simp only [sS0] at hq
    split at hq
    · rename_i hp
      injection hq with hq
      subst hp
      subst hq
      refine ⟨⟨1, hc63⟩, by rw [hwb.cell]; rfl, hwb.lt, ?_⟩
      simp only [sS0]
      rw [if_neg (by omega), if_neg (by omega), if_neg (by omega), if_neg (by omega), if_neg (by omega), if_neg (by omega), if_pos trivial]
    · cases hq
  · simp only [sS0]; rw [if_pos trivial]
  · simp only [sS0]; rw [if_neg (by omega), if_pos trivial]
  · simp only [sS0]; rw [if_neg (by omega), if_neg (by omega), if_pos trivial]
  · simp only [sS0]; rw [if_neg (by omega), if_neg (by omega), if_neg (by omega), if_pos trivial]
  · have hj : j = R ∨ j = T := by
      rcases hj with q | ⟨a, q, q2⟩
      · exact .inl q
      · simp only [sS0] at q
        injection q with q
        subst q
        exact .inr q2
    simp only [sS0]
    rw [if_neg (by omega), if_neg (by omega), if_neg (by omega), if_neg (by omega), if_pos hj]
  · have hj : j = M ∨ j = so ∨ j = sp := by
      rcases hj with q | q | q | ⟨x, q⟩ | q
      · exact .inl q
      · exact .inr (.inl q)
      · cases q
      · simp only [sS0, mS0] at q
        split at q
        · injection q with q; exact .inr (.inr q.symm)
        · cases q
      · cases q
    have n : ¬ (j = R ∨ j = T) := by omega
    simp only [sS0]
    rw [if_neg (by omega), if_neg (by omega), if_neg (by omega), if_neg (by omega), if_neg n, if_pos hj]
  · have l1 := h.kr.lt
    have l2 := hru.lt
    have l3 := hT.row.lt
    have l4 := h.mm.lt
    have l5 := hwb.lt
    obtain ⟨D, ⟨es, ck, hb, _⟩, _⟩ := h.im
    have l6 := (Array.getElem?_eq_some_iff.1 hb).1
    simp only [sS0]
    rw [if_neg (by omega), if_neg (by omega), if_neg (by omega), if_neg (by omega), if_neg (by omega), if_neg (by omega), if_neg (by omega)]
  · rcases Nat.lt_or_ge j B with q | q
    · exfalso
      apply hj
      simp only
      rw [if_neg (by omega), if_neg (by omega), if_neg (by omega), if_neg (by omega), if_neg (by omega), if_neg (by omega), if_neg (by omega)]
    · exact q
  · by_cases q : j ≤ M ∨ sp ≤ j
    · exact q
    · exfalso
      apply hj
      simp only
      rw [if_neg (by omega), if_neg (by omega), if_neg (by omega), if_neg (by omega), if_neg (by omega), if_neg (by omega), if_neg (by omega)]
end Go.Proofs.YthioadiiedlmfaaGreatDoor
namespace Go.Proofs.YthioadiiedlmfaaGreatDoor
open Go.RowKit
set_option linter.unusedVariables false
set_option linter.unusedSimpArgs false
section
variable {w : World} {B K P Wh Fi Pr R M so sp Tb cc wb : Nat} {c : Nat → Value} {tag : Nat → Nat}
theorem who1 (hs : KS w B K P Wh Fi Pr R M so sp c) (h63 : c 63 = .slice (some ⟨wb, 0, none⟩) 1 1) (hg : w.cell? ⟨wb, 0, none⟩ = some (.int .i64 1)) : Who w (sS0 c tag Tb cc sp wb) 1 0 127 none 0 wb 1 := by
  obtain ⟨h0, h1, h2, h3, h4, h5, h6⟩ := hs.tk
  refine ⟨by decide, fun i hi => ?_, h63, ?_, hg, Nat.zero_le _, by decide, by decide, by decide, by decide⟩
  · have : i = 0 ∨ i = 1 ∨ i = 2 ∨ i = 3 ∨ i = 4 ∨ i = 5 := by omega
    rcases this with rfl | rfl | rfl | rfl | rfl | rfl
    · exact congrArg some h1.symm
    · exact congrArg some h2.symm
    · exact congrArg some h3.symm
    · exact congrArg some h4.symm
    · exact congrArg some h5.symm
    · exact congrArg some h6.symm
  · show c 64 = _
    rw [hs.ck 64 (by decide) (by decide) (.inr (by decide))]
    unfold kz
    kernel_rfl
theorem fkF_off (fs : Nat → OpenLaw.F) (r : Nat → Nat) (n k0 : Nat) (h : ∀ i, i < n → r i ≠ k0 + 1) : OpenLaw.fkF fs r n k0 = fs k0 := by
  induction n with
  | zero => rfl
  | succ n ih =>
    rw [OpenLaw.fkF]
    split
    · exact ih fun i hi => h i (by omega)
    · rename_i e
      rw [OpenLaw.updF_other _ _ (by have := h n (by omega); omega)]
      exact ih fun i hi => h i (by omega)
/-- behind the fork: the child, whose cred is the parent's copy -/
structure Q2 (s : KSt) (g j k0 : Nat) : Prop where
  c1 : Calm s.c 1
  c2 : Calm s.c 2
  t : s.t = t1
  fd : ∀ i, i < 8 → i ≠ j → s.fd (2 * 8 + i) = 0
  fs : ∀ i, i < 32 → i ≠ k0 → (s.fs i).n = 0
  cr : ∀ i, 11 ≤ i → i ≤ 16 → i ≠ 13 → s.c (8 + 2 * 38 + i) = (if i = 14 then .int .i64 127 else .int .i64 0)
  mo : ∃ b5, s.c (8 + 2 * 38 + 13) = .slice (some ⟨b5, 0, none⟩) 0 0
  wd : ∃ cp, s.c (8 + 2 * 38 + 17) = .slice (some ⟨g, 0, none⟩) 1 cp ∧ 1 ≤ cp ∧ cp ≤ maxLen
  mt : s.c (8 + 2 * 38 + 18) = .slice none 0 0
theorem Q2.who {w : World} {s : KSt} {g j k0 : Nat} (h : Q2 s g j k0) (hg : w.cell? ⟨g, 0, none⟩ = some (.int .i64 1)) : ∃ b5 cp, Who w s 2 0 127 (some ⟨b5, 0, none⟩) 0 g cp := by
  obtain ⟨b5, hm⟩ := h.mo
  obtain ⟨cp, hw, h1, h2⟩ := h.wd
  refine ⟨b5, cp, by decide, fun i hi => ?_, hw, h.mt, hg, Nat.zero_le _, h1, h2, by decide, by decide⟩
  have : i = 0 ∨ i = 1 ∨ i = 2 ∨ i = 3 ∨ i = 4 ∨ i = 5 := by omega
  rcases this with rfl | rfl | rfl | rfl | rfl | rfl
  · exact congrArg some (h.cr 11 (by decide) (by decide) (by decide)).symm
  · exact congrArg some (h.cr 12 (by decide) (by decide) (by decide)).symm
  · exact congrArg some hm.symm
  · exact congrArg some (h.cr 14 (by decide) (by decide) (by decide)).symm
  · exact congrArg some (h.cr 15 (by decide) (by decide) (by decide)).symm
  · exact congrArg some (h.cr 16 (by decide) (by decide) (by decide)).symm
theorem frk_spec {wz : World} (hs : KS wz B K P Wh Fi Pr R M so sp c) {k : KC} {j k0 : Nat} (hj : j < 8) (hk0 : k0 < 32) (h : KT w k (OpenTo (sS0 c tag Tb cc sp wb) 1 3 j k0)) :
    Spec w (KOutG k tag (fun s g e a b => e = 0 ∧ a = 2 ∧ b = 0 ∧ Q2 s g j k0 ∧ s.c 2 = c 2)) 93 #[.pointer (some ⟨k.K, 0, none⟩), .int .i64 1] := by
  have hc := hs.calm
  obtain ⟨y0, y1, y2, y3, y4, y5, y6⟩ := hs.tk
  refine kfork2_is (p := 1) (c := 2) (s1 := 1) (b := sp) (s2 := 2) h ⟨by decide, by decide, start1⟩ hs.one hs.t0 (may0 sp) (by decide) (by decide) start2 (fun j h1 h2 => by obtain rfl : j = 1 := (by omega); exact start1n) hs.tk.2.2.2.1 (bw := wb) rfl ?_ hc.2 rfl rfl (by show 1 < 1000; decide) (by decide) (fun i hi => ?_) (fun i hi => ?_) ?_
  · show c 64 = _
    rw [hs.ck 64 (by decide) (by decide) (.inr (by decide))]
    unfold kz
    kernel_rfl
  · show OpenLaw.updN (fun _ => 0) (1 * 8 + j) (k0 + 1) (2 * 8 + i) = 0
    rw [OpenLaw.updN_other _ _ (by omega)]
  · show 0 ≤ (OpenLaw.updF (fun _ => OpenLaw.f0) k0 ⟨1, 2, 3, false, 0, 1⟩ i).n ∧ (OpenLaw.updF (fun _ => OpenLaw.f0) k0 ⟨1, 2, 3, false, 0, 1⟩ i).n ≤ 200
    by_cases e : i = k0
    · rw [e, OpenLaw.updF_same]; exact ⟨by decide, by decide⟩
    · rw [OpenLaw.updF_other _ _ e]; exact f0n
  · intro m' nb c' tag' ad' cap' gg cp2 b5 hcr h13 h17 h18 hp1 hp2 hnb hf hco h0 hsg hsl
    refine ⟨rfl, rfl, rfl, ⟨hc.other hco (by decide), ⟨hsl.trans hc.1, hsg⟩, rfl, fun i hi hij => ?_, fun i hi hik => ?_, fun i h1 h2 h3 => ?_, ⟨b5, h13⟩, ⟨cp2, h17, hp1, hp2⟩, h18⟩, hco 2 (by decide)⟩
    · show OpenLaw.cpD (OpenLaw.updN (fun _ => 0) (1 * 8 + j) (k0 + 1)) 1 2 8 (2 * 8 + i) = 0
      rw [OpenLaw.cpD_at, if_pos (by omega), OpenLaw.updN_other _ _ (by omega)]
    · show (OpenLaw.fkF (OpenLaw.updF (fun _ => OpenLaw.f0) k0 ⟨1, 2, 3, false, 0, 1⟩) (fun i => OpenLaw.updN (fun _ => 0) (1 * 8 + j) (k0 + 1) (1 * 8 + i)) 8 i).n = 0
      rw [fkF_off _ _ _ _ (fun q hq => ?_), OpenLaw.updF_other _ _ hik]
      by_cases e : q = j
      · show OpenLaw.updN (fun _ => 0) (1 * 8 + j) (k0 + 1) (1 * 8 + q) ≠ i + 1
        rw [e, OpenLaw.updN_same]; omega
      · show OpenLaw.updN (fun _ => 0) (1 * 8 + j) (k0 + 1) (1 * 8 + q) ≠ i + 1
        rw [OpenLaw.updN_other _ _ (by omega)]; omega
    · refine (hcr i h1 h2 h3).trans ?_
      show c (8 + 1 * 38 + i) = _
      have : i = 11 ∨ i = 12 ∨ i = 14 ∨ i = 15 ∨ i = 16 := by omega
      rcases this with rfl | rfl | rfl | rfl | rfl
      · exact y1
      · exact y2
      · exact y4
      · exact y5
      · exact y6
/-- behind SetId: the child is U, without capabilities -/
theorem Q2.whoU {w : World} {s : KSt} {g j k0 : Nat} (h : Q2 s g j k0) (hg : w.cell? ⟨g, 0, none⟩ = some (.int .i64 1)) {U : Int} (hU : 1 ≤ U ∧ U ≤ 99) (a : Option Addr) (cap : Nat) (hc : cap ≤ maxLen) : ∃ cp, Who w (IdTo s 2 U a cap) 2 U 0 a cap g cp := by
  obtain ⟨cp, hw, h1, h2⟩ := h.wd
  refine ⟨cp, by decide, fun i hi => ?_, ?_, ?_, hg, hc, h1, h2, by omega, by decide⟩
  · show _ = some (crTo s.c (8 + 2 * 38 + 11) (crA U 0 a cap) (8 + 2 * 38 + 11 + i))
    unfold crTo
    rw [if_pos (by omega), show 8 + 2 * 38 + 11 + i - (8 + 2 * 38 + 11) = i by omega, Array.getElem?_eq_getElem (by show i < 6; exact hi)]
    rfl
  · show crTo s.c (8 + 2 * 38 + 11) (crA U 0 a cap) (8 + 2 * 38 + 17) = _
    unfold crTo
    rw [if_neg (by omega), hw]
  · show crTo s.c (8 + 2 * 38 + 11) (crA U 0 a cap) (8 + 2 * 38 + 18) = _
    unfold crTo
    rw [if_neg (by omega), h.mt]
theorem calm_id {s : KSt} {U : Int} {a : Option Addr} {cap : Nat} (h : Calm s.c 2) : Calm (IdTo s 2 U a cap).c 2 := by
  have e : ∀ j, 8 + 2 * 38 + 17 ≤ j → (IdTo s 2 U a cap).c j = s.c j := fun j hj => by
    show crTo s.c (8 + 2 * 38 + 11) (crA U 0 a cap) j = _
    unfold crTo
    rw [if_neg (by omega)]
  exact ⟨(e _ (by omega)).trans h.1, fun j hj => (e _ (by omega)).trans (h.2 j hj)⟩
end
end Go.Proofs.YthioadiiedlmfaaGreatDoor
namespace Go.Proofs.YthioadiiedlmfaaGreatDoor
theorem and255 (x : Int) : bits .and .i64 x 255 = x % 256 := by
  have hb : (x % 18446744073709551616).toNat &&& 255 = (x % 18446744073709551616).toNat % 256 := Nat.and_two_pow_sub_one_eq_mod _ 8
  have h5 : (BitVec.ofInt 64 255).toNat = 255 := by decide
  have hx : (BitVec.ofInt 64 x).toNat = (x % 18446744073709551616).toNat := by rw [BitVec.toNat_ofInt]; rfl
  have e : bits .and .i64 x 255 = IntKind.i64.wrap ((BitVec.ofInt 64 x &&& BitVec.ofInt 64 255).toNat : Int) := rfl
  rw [e, BitVec.toNat_and, h5, hx, hb]
  rw [wraps_i64 _ (by omega) (by omega)]
  omega
end Go.Proofs.YthioadiiedlmfaaGreatDoor
