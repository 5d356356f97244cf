/- The six calls of the law of ends: what each may come to. A law under way: the kernel's state, and the answers that were given. The walks of space: may, shared, fetch, in one page, at any memory. The walks of space: fetch, Read, in one page, at any memory. -/
import Derived.Test.YtmdjkoiglghipaaGreatDoorKerY
import Derived.Test.YtmdjkoiglghipaaGreatDoorDiskNew
namespace Go.Proofs.YtmdjkoiglghipaaGreatDoor
open Go.RowKit
set_option linter.unusedVariables false
set_option linter.unusedSimpArgs false
section
variable {w0 w : World} {B K P Wh Fi Pr R M so sp T cc wb : Nat} {c : Nat → Value} {tag : Nat → Nat} {k : KC}
theorem start1 : (ProcLaw.start 1).st = 1 := by decide
theorem start1n : (ProcLaw.start 1).st ≠ 0 := by decide
theorem start2 : (ProcLaw.start 2).st = 0 := by decide
theorem f0n : 0 ≤ OpenLaw.f0.n ∧ OpenLaw.f0.n ≤ 200 := by decide
theorem ask_fork {wz : World} (hs : KS wz B K P Wh Fi Pr R M so sp c) (h : KT w k (sS0 c tag T cc sp wb)) (hk : k = ⟨K, Wh, Fi, Pr, R, M, so⟩) :
    Spec w (KOut w.heap.size k tag (fun s e a b => e = 0 ∧ a = 2 ∧ b = 0 ∧ ∃ nb, P1 s nb)) 104 #[.pointer (some ⟨k.K, 0, none⟩), .int .i64 1] := by
  have hc := hs.calm
  refine kfork_is (p := 1) (c := 2) (s1 := 1) (b := sp) (s2 := 2) h ⟨by decide, by decide, start1⟩ hs.one hs.t0 (may0 sp) (by decide) (by decide) start2 (fun j h1 h2 => by obtain rfl : j = 1 := (by omega); exact start1n) hs.tk.2.2.2.1 (bw := wb) rfl ?_ hc.2 rfl rfl (by show 1 < 1000; decide) (by decide) (fun _ _ => rfl) (fun _ _ => f0n) ?_
  · show c 64 = _
    rw [hs.ck 64 (by decide) (by decide) (.inr (by decide))]
    unfold kz
    kernel_rfl
  · intro m' nb c' tag' ad' cap' hnb hf hco h0 hsg hsl
    refine ⟨rfl, rfl, rfl, nb, ?_⟩
    have hnsp : nb ≠ sp := fun e => by
      have := h.me.lt (k := sp) (.inr (.inr (.inr (.inl ⟨1, rfl⟩))))
      omega
    refine ⟨hc.other hco (by decide), ⟨hsl.trans hc.1, hsg⟩, h0, fun j hj => ?_, rfl, rfl, l1_is, by rw [hf.S]; exact if_pos rfl, fun q => by rw [hf.F, fup_same]; rfl, ?_, hf.pl⟩
    · show OpenLaw.cpD _ 1 2 8 (2 * 8 + j) = 0
      rw [OpenLaw.cpD_at]
      split <;> rfl
    · exact Nat.le_zero.1 hf.nFn
variable {s : KSt} {nb n p : Nat} {A : Array Value}
theorem ask_map (h : KT w0 k s) (q : P1 s nb) (hA : A.size = 7) (ha : A[0]? = some (.int .i64 23)) (ha1 : A[1]? = some (.int .i64 3)) (ha2 : A[2]? = some (.int .i64 n)) (ha3 : A[3]? = some (.int .i64 3)) (hn : 1 ≤ n) (hn' : n ≤ 20) :
    Spec w0 (KOut w0.heap.size k s.tag (fun s' e a b => e = 0 ∧ P2 n s' nb)) 46 #[.pointer (some ⟨k.K, 0, none⟩), .int .i64 2, .agg A] := by
  refine proc_map (p := 2) h (by decide) (by decide) hA ha ha1 ha2 ha3 (s1 := 2) (b := nb) q.sp q.S (by decide) (by decide) hn (by omega) (by decide) (by decide) (fun j _ => q.F _) (by rw [q.pl]; simp; omega) (by rw [q.pl]; simp; omega) (by rw [q.nF]; decide) ?_
  intro B0 m' new tag' hlen g
  have hpl : m'.pl = new := by rw [g.pl, q.pl, List.nil_append]
  refine ⟨rfl, q.c1, q.c2, q.sp, q.fd, q.cw, q.t, q.l, by rw [g.S]; exact q.S, fun x => ?_, by rw [hpl, hlen], fun y hy => (g.nd y (by rwa [hpl] at hy)).2.1, fun y hy => (g.nd y (by rwa [hpl] at hy)).2.2⟩
  show m'.F nb x = _
  rw [g.F, fup_same, hpl, hlen, q.F]
theorem t1_st (j : Nat) : (t1 j).st ≠ 2 := by
  unfold t1 ProcLaw.forked ProcLaw.updE ProcLaw.start
  split
  · decide
  · unfold ProcLaw.updE
    split
    · decide
    · exact (by decide : ProcLaw.e0.st ≠ 2)
theorem t1_1 : (t1 1).st = 1 := by decide
theorem t1_2 : (t1 2).st = 1 ∧ (t1 2).par = 1 := by decide
theorem ask_wait1 (h : KT w0 k s) (q : P2 n s nb) (hA : A.size = 7) (ha : A[0]? = some (.int .i64 4)) :
    Spec w0 (KOut w0.heap.size k s.tag (fun s' e a b => e = 9 ∧ P2 n s' nb)) 46 #[.pointer (some ⟨k.K, 0, none⟩), .int .i64 1, .agg A] := by
  refine proc_wait (p := 1) h (by decide) (by decide) hA ha ?_
  rintro r c en t' (⟨_, rfl, hx⟩ | ⟨_, j, _, _, _, _, _, hj, _⟩)
  · refine ⟨?_, q.c1, q.c2, q.sp, q.fd, q.cw, q.t, q.l, q.S, q.F, q.ln, q.u, q.h⟩
    rcases hx with hx | ⟨_, ⟨e, _⟩ | ⟨_, hx⟩⟩
    · exact absurd (ProcLaw.livR_alive ⟨by decide, by decide, by rw [q.t]; exact t1_1⟩) hx
    · exact e
    · exact absurd ⟨2, by decide, by rw [q.t]; decide, by rw [q.t]; exact t1_2.2⟩ hx
  · rw [q.t] at hj
    exact absurd hj (t1_st j)
/-- the table behind the child's end, and behind the wait for it -/
def t2 (x : Int) : ProcLaw.T := ProcLaw.ended t1 2 x
def t3 (x : Int) : ProcLaw.T := ProcLaw.updE (t2 x) 2 ProcLaw.e0
theorem t2_2 (x : Int) : t2 x 2 = ⟨2, 1, 1, x⟩ := by
  unfold t2 ProcLaw.ended
  rw [ProcLaw.updE_same]
  have h : (ProcLaw.lost t1 2 17 2).par = 1 ∧ (ProcLaw.lost t1 2 17 2).gr = 1 := by decide
  rw [h.1, h.2]
theorem t2_1 (x : Int) : (t2 x 1).st = 1 := by
  unfold t2 ProcLaw.ended
  rw [ProcLaw.updE_other _ _ (by decide)]
  decide
theorem t2_st (x : Int) {j : Nat} (h : (t2 x j).st = 2) : j = 2 := by
  by_cases e : j = 2
  · exact e
  · unfold t2 ProcLaw.ended at h
    rw [ProcLaw.updE_other _ _ e, ProcLaw.lost_st] at h
    exact absurd h (t1_st j)
theorem t1_par {j : Nat} (h : (t1 j).st ≠ 0) : j = 1 ∨ j = 2 := by
  by_cases e : j = 2
  · exact .inr e
  by_cases e1 : j = 1
  · exact .inl e1
  unfold t1 ProcLaw.forked ProcLaw.start at h
  rw [ProcLaw.updE_other _ _ e, ProcLaw.updE_other _ _ e1] at h
  exact absurd (by decide : ProcLaw.e0.st = 0) h
theorem t3_par (x : Int) {j : Nat} (h : (t3 x j).st ≠ 0) : j = 1 := by
  by_cases e : j = 2
  · subst e
    unfold t3 at h
    rw [ProcLaw.updE_same] at h
    exact absurd (by decide : ProcLaw.e0.st = 0) h
  · unfold t3 t2 ProcLaw.ended at h
    rw [ProcLaw.updE_other _ _ e, ProcLaw.updE_other _ _ e, ProcLaw.lost_st] at h
    exact (t1_par h).resolve_right e
theorem t3_1 (x : Int) : (t3 x 1).st = 1 ∧ (t3 x 1).par = 0 := by
  unfold t3 t2 ProcLaw.ended
  rw [ProcLaw.updE_other _ _ (by decide), ProcLaw.updE_other _ _ (by decide)]
  decide
theorem ask_exit (h : KT w0 k s) (q : P2 n s nb) (hn : n ≤ 20) (x : Int) :
    SpecE w0 (KOut w0.heap.size k s.tag (fun s' e a b => e = 0 ∧ P3 (t2 (bits .and .i64 x 255)) s')) 42 #[.pointer (some ⟨k.K, 0, none⟩), .int .i64 2, .int .i64 x] := by
  have hF : ∀ y g r, s.m.F nb y = some (g, r) → 3 ≤ y ∧ s.m.pl[(y - 3).toNat]? = some g := fun y g r hy => by
    rw [q.F] at hy
    split at hy
    · rename_i hr
      refine ⟨hr.1, ?_⟩
      cases hg : s.m.pl[(y - 3).toNat]? with
      | none => rw [hg] at hy; cases hy
      | some g' =>
        rw [hg] at hy
        simp only [Option.map_some, Option.some.injEq, Prod.mk.injEq] at hy
        rw [hy.1]
    · cases hy
  refine kexit_is (p := 2) (q := 1) (i := 1) (b := nb) (s1 := 2) h ⟨by decide, by decide, by rw [q.t]; exact t1_2.1⟩ (by decide) q.sp q.S (by decide) (fun y y' g r r' hy hy' => ?_) (fun y g r hy => ?_) (by rw [q.ln]; omega) q.fd (by rw [q.l]; rfl) q.cw (by rw [q.t]; exact congrArg ProcLaw.E.par (t2_2 _)) (by decide) (by decide) (by decide) (by rw [q.t]; exact t2_1 _) q.c1.1 q.c1.2 ?_
  · obtain ⟨a1, b1⟩ := hF y g r hy
    obtain ⟨a2, b2⟩ := hF y' g r' hy'
    have l1 := (List.getElem?_eq_some_iff.1 b1).1
    have := (List.getElem?_inj l1 h.me.nd).1 (b1.trans b2.symm)
    omega
  · obtain ⟨a1, b1⟩ := hF y g r hy
    have hm := List.mem_of_getElem? b1
    exact ⟨hm, q.u g hm⟩
  · intro m' left c' tag' ad' cap' hleft hpl hnS hFF hnF hh hu hco
    refine ⟨rfl, q.c1.other hco (by decide), by rw [q.t]; rfl, ?_⟩
    show m'.pl = []
    rw [hpl]
    unfold kept
    refine List.filter_eq_nil_iff.2 fun g hg => ?_
    obtain ⟨i, hi⟩ := List.mem_iff_getElem?.1 hg
    have l1 := (List.getElem?_eq_some_iff.1 hi).1
    have : met (s.m.F nb) left g = true := met_iff.2 ⟨3 + (i : Int), 3, by
      rw [q.F, if_pos (by have := q.ln; omega), show ((3 : Int) + i - 3).toNat = i by omega, hi]; rfl, hleft _⟩
    rw [this]
    simp
theorem ask_wait2 {x : Int} (h : KT w0 k s) (q : P3 (t2 x) s) (hA : A.size = 7) (ha : A[0]? = some (.int .i64 4)) :
    Spec w0 (KOut w0.heap.size k s.tag (fun s' e a b => e = 0 ∧ a = 2 ∧ b = x ∧ P3 (t3 x) s')) 46 #[.pointer (some ⟨k.K, 0, none⟩), .int .i64 1, .agg A] := by
  refine proc_wait (p := 1) h (by decide) (by decide) hA ha ?_
  have z : s.t 2 = ⟨2, 1, 1, x⟩ := by rw [q.t]; exact t2_2 x
  rintro r c en t' (⟨_, rfl, hx⟩ | ⟨rfl, j, p', hr, _, hp', _, hj, _, _, hcd, rfl⟩)
  · rcases hx with hx | ⟨hx, _⟩
    · exact absurd (ProcLaw.livR_alive ⟨by decide, by decide, by rw [q.t]; exact t2_1 x⟩) hx
    · exact absurd ⟨by rw [z]; rfl, by rw [z]⟩ (hx 2 (by decide))
  · rw [q.t] at hj
    obtain rfl := t2_st x hj
    refine ⟨rfl, hr, by rw [hcd, z], q.c1, ?_, q.pl⟩
    show ProcLaw.updE s.t 2 _ = _
    rw [q.t]; rfl
theorem ask_wait3 {x : Int} (h : KT w0 k s) (q : P3 (t3 x) s) (hA : A.size = 7) (ha : A[0]? = some (.int .i64 4)) :
    Spec w0 (KOut w0.heap.size k s.tag (fun s' e a b => e = 4 ∧ P3 (t3 x) s')) 46 #[.pointer (some ⟨k.K, 0, none⟩), .int .i64 1, .agg A] := by
  refine proc_wait (p := 1) h (by decide) (by decide) hA ha ?_
  rintro r c en t' (⟨_, rfl, hx⟩ | ⟨_, j, _, _, _, _, _, hj, _⟩)
  · refine ⟨?_, q.c1, q.t, q.pl⟩
    rcases hx with hx | ⟨_, ⟨_, j, _, hj, hjp⟩ | ⟨e, _⟩⟩
    · exact absurd (ProcLaw.livR_alive ⟨by decide, by decide, by rw [q.t]; exact (t3_1 x).1⟩) hx
    · rw [q.t] at hj hjp
      obtain rfl := t3_par x hj
      rw [(t3_1 x).2] at hjp
      exact absurd hjp (by decide)
    · exact e
  · rw [q.t] at hj
    obtain rfl := t3_par x (by rw [hj]; decide)
    rw [(t3_1 x).1] at hj
    exact absurd hj (by decide)
end
end Go.Proofs.YtmdjkoiglghipaaGreatDoor
namespace Go.Proofs.YtmdjkoiglghipaaGreatDoor
open Go.RowKit
set_option linter.unusedVariables false
set_option linter.unusedSimpArgs false
def callA (n a b c : Int) : Array Value := #[.int .i64 n, .int .i64 a, .int .i64 b, .int .i64 c, .string ByteArray.empty, .string ByteArray.empty, .slice none 0 0]
def bdC (ps : Array (Nat × Value)) : Sem Value := Instr.build 36 ps
theorem bd_call (ps : Array (Nat × Value)) : Instr.build 36 ps = bdC ps := rfl
theorem bdc_0 (w : World) (n : Int) : (bdC #[(0, .int .i64 n)]).run Tryz.prog w = .ok (.agg (callA n 0 0 0)) w := by kernel_rfl
theorem bdc_1 (w : World) (n a : Int) : (bdC #[(0, .int .i64 n), (1, .int .i64 a)]).run Tryz.prog w = .ok (.agg (callA n a 0 0)) w := by kernel_rfl
theorem bdc_3 (w : World) (n a b c : Int) : (bdC #[(0, .int .i64 n), (1, .int .i64 a), (2, .int .i64 b), (3, .int .i64 c)]).run Tryz.prog w = .ok (.agg (callA n a b c)) w := by kernel_rfl
/-- the law under way: the kernel's state, the answers' rows -/
structure EL (w0 w : World) (k : KC) (s : KSt) (l : List (Nat × Array Value)) : Prop where
  kt : KT w k s
  hb : Below w0.heap.size w0 w
  lo : ∀ j, s.tag j ≠ 0 → w0.heap.size ≤ j
  rows : ∀ p, p ∈ l → Row w p.1 33 p.2 ∧ s.tag p.1 = 0
section
variable {w0 w w1 w' : World} {k : KC} {s : KSt} {l : List (Nat × Array Value)} {T : KSt → Int → Int → Int → Prop} {X : Array Value} {p : Nat} {A : Array Value}
theorem EL.keep (h : EL w0 w k s l) (hb : Below w.heap.size w w') : EL w0 w' k s l := ⟨h.kt.keep hb, h.hb.trans (hb.mono h.hb.size), h.lo, fun p hp => ⟨(h.rows p hp).1.keep hb, (h.rows p hp).2⟩⟩
theorem EL.asked (h : EL w0 w k s l) (hb : Below w.heap.size w w1) (ho : KOut w.heap.size k s.tag T w1 X w') : ∃ s' e a b, X = ansV e a b (.slice none 0 0) ∧ T s' e a b ∧ EL w0 (w'.alloc (.cells X 33)) k s' ((w'.heap.size, X) :: l) := by
  obtain ⟨s', e, a, b, hk, hf, rfl, hT, hU⟩ := ho
  have z0 := h.hb.size
  have z1 := hb.size
  have z2 := hU.size
  have hU' : Upd (fun j => s.tag j ≠ 0) w w' := (Upd.below hb).trans hU
  have al := Go.Joins.below_alloc1 w' (.cells (ansV e a b (.slice none 0 0)) 33)
  refine ⟨s', e, a, b, rfl, hT, hk.keep al, (h.hb.trans (hU'.toBelow z0 (fun j hj q => by have := h.lo j q; omega))).trans (al.mono (by omega)), fun j hj => ?_, fun q hq => ?_⟩
  · rcases hf j hj with q | q
    · exact h.lo j q
    · omega
  · rcases List.mem_cons.1 hq with rfl | hq
    · exact ⟨row_new _ _ _, hk.tz _ (Nat.le_refl _)⟩
    · obtain ⟨r1, r2⟩ := h.rows q hq
      refine ⟨(r1.upd hU' (fun e => e r2)).keep al, ?_⟩
      cases Nat.eq_zero_or_pos (s'.tag q.1) with
      | inl e => exact e
      | inr e =>
        rcases hf q.1 (by omega) with e2 | e2
        · exact absurd r2 e2
        · have := r1.lt; omega
theorem EL.ask (h : EL w0 w k s l) (haw : Awake s p) (hA : A.size = 7) {num : Int} (hn : num = 1 ∨ num = 2 ∨ num = 4 ∨ num = 23) (ha : A[0]? = some (.int .i64 num)) (hs : Spec w (KOut w.heap.size k s.tag T) 46 #[.pointer (some ⟨k.K, 0, none⟩), .int .i64 p, .agg A]) :
    Calls Tryz.prog 6 #[.pointer (some ⟨k.K, 0, none⟩), .int .i64 p, .agg A] w fun e2 w' => ∃ s' e a b, e2 = .returned (.agg (ansV e a b (.slice none 0 0))) ∧ T s' e a b ∧ EL w0 (w'.alloc (.cells (ansV e a b (.slice none 0 0)) 33)) k s' ((w'.heap.size, ansV e a b (.slice none 0 0)) :: l) := by
  have ok := kout_ok (k := k) (w0 := w) (tag0 := s.tag) h.kt.tz T
  refine (askP_is ok (Below.refl _ _) h.kt haw hA (doP_is ok hn hA ha hs)).mono ?_
  rintro e2 w' ⟨X, rfl, hX, hone, hu, ho⟩
  obtain ⟨s', e, a, b, rfl, hT, hel⟩ := h.asked (Below.refl _ _) ho
  exact ⟨s', e, a, b, rfl, hT, hel⟩
theorem ans_new (w : World) (e a b : Int) : (stR 33 (.pointer (some ⟨w.heap.size, 0, none⟩)) (.agg (ansV e a b (.slice none 0 0)))).run Tryz.prog (w.alloc (.cells #[.int .i64 0, .int .i64 0, .int .i64 0, .slice none 0 0, .slice none 0 0, .int .i64 0, .int .i64 0, .int .i64 0, .int .i64 0, .int .i64 0, .int .i64 0] 33)) = .ok () (w.alloc (.cells (ansV e a b (.slice none 0 0)) 33)) := st0_new w rfl (by kernel_rfl) (ansV_one _ _ _ rfl)
end
end Go.Proofs.YtmdjkoiglghipaaGreatDoor
namespace Go.Proofs.YtmdjkoiglghipaaGreatDoor
open Go.RowKit Go.Maps
set_option linter.unusedVariables false
set_option linter.unusedSimpArgs false
theorem td16 {x : Int} (h : 0 ≤ x) : x.tdiv 16 = x / 16 := Int.tdiv_eq_ediv_of_nonneg h
theorem tm16 {x : Int} (h : 0 ≤ x) : x.tmod 16 = x % 16 := Int.tmod_eq_emod_of_nonneg h
section
variable {w w' : World} {M so g b : Nat} {fr sl s pg ad : Int} {m : MS}
theorem MemG.two (h : MemG w M so fr sl m) (hs : m.S s = some b) (hwf : (Lit.int .i64 s).wf = true) : (Instr.lookup 82 (.map (some so)) (.int .i64 s) false).run Tryz.prog w = .ok (.map (some b)) w := by
  have l1 := h.om.look hwf
  rw [hs] at l1
  exact l1
theorem MemG.ent (h : MemG w M so fr sl m) (hs : m.S s = some b) {r : Int} (hF : m.F b pg = some (g, r)) (h0 : 0 ≤ pg) (h63 : pg < 64) : (Instr.lookup 80 (.map (some b)) (.int .i64 pg) false).run Tryz.prog w = .ok (.agg #[.pointer (some ⟨g, 0, none⟩), .int .i64 r]) w := by
  have l2 := (h.im s b hs).look (k := pg) (WalkArith.wf_i64 (by omega))
  rw [hF] at l2
  exact l2
theorem MemG.ent_ok (h : MemG w M so fr sl m) (hs : m.S s = some b) {r : Int} (hF : m.F b pg = some (g, r)) (h0 : 0 ≤ pg) (h63 : pg < 64) : (Instr.lookup 80 (.map (some b)) (.int .i64 pg) true).run Tryz.prog w = .ok (.tuple #[.agg #[.pointer (some ⟨g, 0, none⟩), .int .i64 r], .bool true]) w := by
  have l2 := (h.im s b hs).look_ok (k := pg) (WalkArith.wf_i64 (by omega))
  rw [hF] at l2
  exact l2
theorem fieldE (x y : Value) (w : World) : (Instr.field 115 (.agg #[x, y]) 0).run Tryz.prog w = .ok x w := by kernel_rfl
set_option maxRecDepth 100000 in
set_option maxHeartbeats 400000 in
theorem mayG_is (h : MemG w M so fr sl m) (hs : m.S s = some b) (hwf : (Lit.int .i64 s).wf = true) (h0 : 0 ≤ pg) (h63 : pg < 64) (hF : m.F b pg = some (g, 3)) (had : ad = 16 * pg) {n wt : Int} (n0 : 0 ≤ n) (hn : n ≤ 16) (hw : wt = 1 ∨ wt = 2) :
    Calls Tryz.prog 22 #[.pointer (some ⟨M, 0, none⟩), .int .i64 s, .int .i64 ad, .int .i64 n, .int .i64 wt] w fun e w' => e = .returned (.bool true) ∧ Below w.heap.size w w' := by
  have m4 := h.m4
  have l1 := h.two hs hwf
  have l2 := h.ent_ok hs hF h0 h63
  have HB := Lib.hid (Go.Joins.below_alloc1 w (.cells #[.pointer (some ⟨g, 0, none⟩), .int .i64 3] 115))
  by_cases hz : n = 0
  · subst hz
    clear h l1 l2 m4 hs hwf hF had
    go_enter Tryz.func22, Tryz.ntmps22
    go_wp2_with fail
    go_ret
    exact ⟨rfl, Below.refl _ _⟩
  have i0 : ¬ ad < 0 := by omega
  have i1 : ¬ 1024 - n < ad := by omega
  have i2 : (n == 0) = false := by simp; omega
  have y0 : IntKind.i64.wrap (1024 - n) = 1024 - n := IntWalk.i64_in _ (by omega)
  have y1 : IntKind.i64.wrap (ad + n) = ad + n := IntWalk.i64_in _ (by omega)
  have y2 : IntKind.i64.wrap (ad + n - 1) = ad + n - 1 := IntWalk.i64_in _ (by omega)
  have q0 : ad.tdiv 16 = pg := by rw [td16 (by omega)]; omega
  have q1 : (ad + n - 1).tdiv 16 = pg := by rw [td16 (by omega)]; omega
  have y3 : IntKind.i64.wrap pg = pg := IntWalk.i64_in _ (by omega)
  have y5 : IntKind.i64.wrap (pg + 1) = pg + 1 := IntWalk.i64_in _ (by omega)
  have i5 : ¬ pg + 1 ≤ pg := by omega
  have i6 : pg ≤ pg := by omega
  have i7 : pg < pg + 1 := by omega
  clear h hs hwf hF had hz
  go_enter Tryz.func22, Tryz.ntmps22
  go_wp2_with fail
  refine wp_loop_rounds 2 ?_
  rw [rounds_succ]
  rcases hw with rfl | rfl
  · go_wp2_with fail
    rw [rounds_succ]
    go_wp2_with fail
    go_ret
    exact ⟨rfl, HB.out⟩
  · go_wp2_with fail
    rw [rounds_succ]
    go_wp2_with fail
    go_ret
    exact ⟨rfl, HB.out⟩
set_option maxRecDepth 100000 in
set_option maxHeartbeats 400000 in
theorem sharedG_is (h : MemG w M so fr sl m) (hs : m.S s = some b) (hwf : (Lit.int .i64 s).wf = true) (h0 : 0 ≤ pg) (h63 : pg < 64) (hF : m.F b pg = some (g, 3)) (hg : g ∈ m.pl) (had : ad = 16 * pg) {n u : Int} (n0 : 0 ≤ n) (hn : n ≤ 16) (hu : m.u g = u) (hu1 : u = 1 ∨ u = 2) {x : Int} (hx : x = if 0 < n ∧ u = 2 then 1 else 0) :
    Calls Tryz.prog 48 #[.pointer (some ⟨M, 0, none⟩), .int .i64 s, .int .i64 ad, .int .i64 n] w fun e w' => e = .returned (.int .i64 x) ∧ w = w' := by
  have m4 := h.m4
  have l1 := h.two hs hwf
  have l2 := h.ent hs hF h0 h63
  have fd := fieldE (.pointer (some ⟨g, 0, none⟩)) (.int .i64 3) w
  have us := (h.pg g hg).us
  rw [hu] at us
  by_cases hz : n = 0
  · subst hz
    rw [if_neg (by omega)] at hx
    subst hx
    have q0 : ad.tdiv 16 = pg := by rw [td16 (by omega)]; omega
    have y3 : IntKind.i64.wrap pg = pg := IntWalk.i64_in _ (by omega)
    clear h l1 l2 m4 hs hwf hF had hu us fd
    go_enter Tryz.func48, Tryz.ntmps48
    go_wp2_with fail
    refine wp_loop_rounds 1 ?_
    rw [rounds_succ]
    go_wp2_with fail
    go_ret
    exact ⟨rfl, rfl⟩
  have i2 : (0 : Int) < n := by omega
  have y1 : IntKind.i64.wrap (ad + n) = ad + n := IntWalk.i64_in _ (by omega)
  have y2 : IntKind.i64.wrap (ad + n - 1) = ad + n - 1 := IntWalk.i64_in _ (by omega)
  have q0 : ad.tdiv 16 = pg := by rw [td16 (by omega)]; omega
  have q1 : (ad + n - 1).tdiv 16 = pg := by rw [td16 (by omega)]; omega
  have y3 : IntKind.i64.wrap pg = pg := IntWalk.i64_in _ (by omega)
  have y5 : IntKind.i64.wrap (pg + 1) = pg + 1 := IntWalk.i64_in _ (by omega)
  have i5 : ¬ pg + 1 ≤ pg := by omega
  have i6 : pg ≤ pg := by omega
  have i7 : pg < pg + 1 := by omega
  clear h hs hwf hF had hz hu
  go_enter Tryz.func48, Tryz.ntmps48
  go_wp2_with fail
  refine wp_loop_rounds 2 ?_
  rw [rounds_succ]
  rcases hu1 with rfl | rfl
  · rw [if_neg (by omega)] at hx
    subst hx
    go_wp2_with fail
    rw [rounds_succ]
    go_wp2_with fail
    go_ret
    exact ⟨rfl, rfl⟩
  · rw [if_pos ⟨i2, rfl⟩] at hx
    subst hx
    go_wp2_with fail
    rw [rounds_succ]
    go_wp2_with fail
    go_ret
    exact ⟨rfl, rfl⟩
end
end Go.Proofs.YtmdjkoiglghipaaGreatDoor
namespace Go.Proofs.YtmdjkoiglghipaaGreatDoor
open Go.RowKit Go.Maps
set_option linter.unusedVariables false
set_option linter.unusedSimpArgs false
theorem MS.askd3 (m : MS) {g : Nat} (h : m.h g = true) : { m with h := fup m.h g true } = m := by
  cases m
  simp only [fup_id _ _ _ h]
/-- the first n bytes of a page -/
def pgl (d : Nat → Int) (n : Nat) : List Int := (List.range n).map d
theorem pgl_succ (d : Nat → Int) (n : Nat) : pgl d (n + 1) = pgl d n ++ [d n] := by simp [pgl, List.range_succ]
theorem pgl_len (d : Nat → Int) (n : Nat) : (pgl d n).length = n := by simp [pgl]
section
variable {w w' : World} {M so g b : Nat} {fr sl s pg ad : Int} {m : MS}
theorem askG_here (h : MemG w M so fr sl m) (hg : g ∈ m.pl) (hh : m.h g = true) : Calls Tryz.prog 50 #[.pointer (some ⟨M, 0, none⟩), .pointer (some ⟨g, 0, none⟩)] w fun e w' => e = .returned (.tuple #[]) ∧ MemG w' M so fr sl m ∧ Upd (fun k => k = M ∨ k = g) w w' := by
  have := askG_is h hg (.inl hh)
  rw [MS.askd3 m hh] at this
  exact this
attribute [local go_sem ↓] appB_eq
set_option maxRecDepth 100000 in
set_option maxHeartbeats 1000000 in
theorem fetchG_is (h : MemG w M so fr sl m) (hs : m.S s = some b) (hwf : (Lit.int .i64 s).wf = true) (h0 : 0 ≤ pg) (h63 : pg < 64) {r : Int} (hF : m.F b pg = some (g, r)) (hg : g ∈ m.pl) (hh : m.h g = true) (had : ad = 16 * pg) {n : Nat} (hn : n ≤ 16) {N : Int} (hN : N = n) :
    Calls Tryz.prog 24 #[.pointer (some ⟨M, 0, none⟩), .int .i64 s, .int .i64 ad, .int .i64 N] w fun e w' => (∃ v, e = .returned v ∧ OB w.heap.size w' v (pgl (m.d g) n)) ∧ MemG w' M so fr sl m ∧ Upd (fun k => k = M ∨ k = g) w w' := by
  have HM := Lib.hid h
  have HX := Lib.hid (And.intro hs (And.intro hwf (And.intro hF (And.intro hg hh))))
  have a0 : 0 ≤ ad := by omega
  have a1 : ad ≤ 1008 := by omega
  have y1 : IntKind.i64.wrap (ad + N) = ad + N := IntWalk.i64_in _ (by omega)
  have HAD := Lib.hid had
  have HGM : Hid (g < w.heap.size ∧ M < w.heap.size) := Lib.hid ⟨h.lt (.inr (.inr (.inr (.inr hg)))), h.mlt⟩
  have HMB : Hid (∀ j, mB M so m j → j < w.heap.size) := Lib.hid fun j hj => h.lt hj
  clear h hs hwf hF hg hh had
  subst hN
  go_enter Tryz.func24, Tryz.ntmps24
  go_wp2_with fail
  go_loopw [9, 10] (fun ov kv wr => ∃ k : Nat, k ≤ n ∧ kv = .int .i64 (ad + k) ∧ Hid (OB w.heap.size wr ov (pgl (m.d g) k)) ∧ Hid (MemG wr M so fr sl m) ∧ Hid (Upd (fun k => k = M ∨ k = g) w wr)) (fun _ kv _ => (ad + n - intOf kv).toNat)
  case atStart => exact ⟨0, by omega, by simp, Lib.hid (OB.nil _ _), HM, Lib.hid (Upd.refl _ _)⟩
  case round =>
    obtain ⟨k, hk0, rfl, HO, HM1, HU⟩ := hrel
    by_cases hk : k < n
    · have i1 : ad + (k : Int) < ad + n := by omega
      have m4 := HM1.out.m4
      have l1 := HM1.out.two HX.out.1 HX.out.2.1
      have l2 := HM1.out.ent HX.out.1 HX.out.2.2.1 h0 h63
      have fd := fieldE (.pointer (some ⟨g, 0, none⟩)) (.int .i64 r) wr
      have q0 : (ad + (k : Int)).tdiv 16 = pg := by rw [td16 (by omega)]; have := HAD.out; omega
      have q1 : (ad + (k : Int)).tmod 16 = k := by rw [tm16 (by omega)]; have := HAD.out; omega
      have q2 : (ad + (k : Int)) / 16 = pg := by have := HAD.out; omega
      have q3 : (ad + (k : Int)) % 16 = k := by have := HAD.out; omega
      have y2 : IntKind.i64.wrap pg = pg := IntWalk.i64_in _ (by omega)
      have y3 : IntKind.i64.wrap (k : Int) = k := IntWalk.i64_in _ (by omega)
      have y4 : IntKind.i64.wrap (ad + (k : Int) + 1) = ad + (k : Int) + 1 := IntWalk.i64_in _ (by omega)
      have k16 : (k : Int) < 16 := by omega
      have k0 : (0 : Int) ≤ k := by omega
      have HAS := Lib.hid (askG_here HM1.out HX.out.2.2.2.1 HX.out.2.2.2.2)
      go_upto_region 7 with (go_at_call 50; refine HAS.out.mono ?_; rintro e1 w1 ⟨rfl, hm1, hu1⟩)
      have dc := (hm1.pg g HX.out.2.2.2.1).dc k (by omega)
      have HM2 := Lib.hid hm1
      have ho1 := HO.out.upd hu1 (fun j e q => by
        have := HO.out.far (b := j) (B := w.heap.size) (by rcases q with rfl | rfl; exact HGM.out.2; exact HGM.out.1)
        exact this e)
      have hsz := Nat.le_trans HU.out.size hu1.size
      obtain ⟨x, hx⟩ : ∃ x, x = m.d g k := ⟨_, rfl⟩
      have HPX := Lib.hid (show pgl (m.d g) (k + 1) = pgl (m.d g) k ++ [x] by rw [pgl_succ, hx])
      rw [← hx] at dc
      clear hx
      obtain ⟨p', c', w2, hap, ho2, hg2, hb2⟩ := ho1.push hsz x (by rw [pgl_len]; omega)
      rw [pgl_len] at hap ho2
      rw [← HPX.out] at ho2
      have hu2 : Upd (fun j => u9.ownBlock = some j) w1 w2 := (Upd.below (Go.Joins.below_alloc1 w1 _)).trans (Upd.grown0 hg2 (fun j e _ => e))
      have HM3 := Lib.hid (hm1.upd hu2 (fun j e q => HO.out.far (b := j) (HMB.out j e) q))
      have HO3 : Hid (OB w.heap.size w2 (.slice p' (k + 1) c') (pgl (m.d g) (k + 1))) := Lib.hid ho2
      have HU3 := Lib.hid ((HU.out.trans hu1).trans' hu2 (fun j hj q => absurd q (HO.out.far hj)))
      clear HO HM1 HU HAS HM2 ho1 hm1 hu1 ho2 hg2 hb2 hu2 HPX l1 l2 fd m4
      go_wp2_with fail
      go_roundw
      case rel => exact ⟨k + 1, by omega, by go_num, HO3, HM3, HU3⟩
      case measure => simp [intOf]; omega
    · obtain rfl : k = n := by omega
      go_wp2_with fail
      go_ret
      exact ⟨⟨_, rfl, HO.out⟩, HM1.out, HU.out⟩
end
end Go.Proofs.YtmdjkoiglghipaaGreatDoor
