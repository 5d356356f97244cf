/- Walk of kernel.fork. -/
import Derived.Test.YtnbhohaphmilmaaGreatDoorKerS
namespace Go.Proofs.YtnbhohaphmilmaaGreatDoor
open Go.RowKit
set_option linter.unusedVariables false
set_option linter.unusedSimpArgs false
theorem ld_tsk (v : Value) : Instr.loadAt 78 v = ldR 78 v := rfl
theorem st_tsk (p v : Value) : Instr.storeAt 78 p v = stR 78 p v := rfl
/-- the cells of task p -/
def tskA (c : Nat → Value) (o : Nat) : Array Value := Array.ofFn (n := 38) (fun j => c (o + j.val))
theorem tskA_size (c : Nat → Value) (o : Nat) : (tskA c o).size = 38 := by simp [tskA]
theorem tskA_get (c : Nat → Value) (o : Nat) {j : Nat} (h : j < 38) : (tskA c o)[j]? = some (c (o + j)) := by simp [tskA, h]
theorem tskA_one {c : Nat → Value} {o : Nat} (h : ∀ j, j < 38 → (c (o + j)).oneCell' = true) : (tskA c o).all (·.oneCell') = true := by
  rw [Array.all_eq_true]
  intro i hi
  simp only [tskA, Array.getElem_ofFn]
  exact h i (by rw [tskA_size] at hi; exact hi)
theorem ld_task_at {w : World} {K o : Nat} {c : Nat → Value} (h : KR w K c) (ho : o + 38 ≤ 655) : (ldR 78 (.pointer (some ⟨K, o, none⟩))).run Tryz.prog w = .ok (.agg (tskA c o)) w := by
  rw [Row.ld h (o := o) (n := 38) (by rw [kerA_size]; omega) Tryz.underlying78 rfl (by kernel_rfl)]
  have : (kerA c).extract o (o + 38) = tskA c o := by
    apply Array.ext
    · simp [kerA_size, tskA_size]; omega
    · intro i h1 h2
      simp [kerA, tskA]
  rw [this]
theorem KR.stT {w : World} {K o : Nat} {c : Nat → Value} {C : Array Value} (h : KR w K c) (ho : o + 38 ≤ 655) (hC : C.size = 38) (h1 : C.all (·.oneCell') = true) :
    (stR 78 (.pointer (some ⟨K, o, none⟩)) (.agg C)).run Tryz.prog w = .ok () (w.setRow K (putA (kerA c) o C.toList)) := Row.st h (by rw [kerA_size]; omega) (by rw [hC]; kernel_rfl) h1
theorem KR.putT {w : World} {K o : Nat} {c : Nat → Value} {C : Array Value} (h : KR w K c) (ho : o + 38 ≤ 655) (hC : C.size = 38) :
    KR (w.setRow K (putA (kerA c) o C.toList)) K (fun j => if o ≤ j ∧ j < o + 38 then (C[j - o]?).getD undef else c j) := by
  have e : putA (kerA c) o C.toList = kerA (fun j => if o ≤ j ∧ j < o + 38 then (C[j - o]?).getD undef else c j) := by
    apply Array.ext_getElem?
    intro j
    rw [putA_get (by rw [kerA_size]; simp; omega)]
    by_cases hj : j < 655
    · rw [kerA_get _ hj, kerA_get _ hj]
      simp only [Array.length_toList, hC, Array.getElem?_toList]
      by_cases hr : o ≤ j ∧ j < o + 38
      · rw [if_pos hr, if_pos hr, Array.getElem?_eq_getElem (by omega)]; rfl
      · rw [if_neg hr, if_neg hr]
    · rw [if_neg (by simp [hC]; omega), Array.getElem?_eq_none (by rw [kerA_size]; omega), Array.getElem?_eq_none (by rw [kerA_size]; omega)]
  rw [e]
  exact Row.setRow h _
def apI := Builtin.append_ #[23, 23] 23
theorem apI_eq : Builtin.append_ #[23, 23] 23 = apI := rfl
def apM := Builtin.append_ #[73, 73] 73
theorem apM_eq : Builtin.append_ #[73, 73] 73 = apM := rfl
def slM (x : Value) (a b c : Option Value) : Sem Value := Instr.sliceAt 73 x a b c
theorem sl_mnt (x : Value) (a b c : Option Value) : Instr.sliceAt 73 x a b c = slM x a b c := rfl
theorem slM_nil (w : World) : (slM (.slice none 0 0) none (some (.int .i64 0)) (some (.int .i64 0))).run Tryz.prog w = .ok (.slice none 0 0) w := by kernel_rfl
theorem apM_nil (w : World) : (apM #[.slice none 0 0, .slice none 0 0]).run Tryz.prog w = .ok (.slice none 0 0) w := by kernel_rfl
theorem apI_nil (w : World) (b : Nat) : (apI #[.slice (some ⟨b, 0, none⟩) 0 0, .slice none 0 0]).run Tryz.prog w = .ok (.slice (some ⟨b, 0, none⟩) 0 0) w := by kernel_rfl
theorem bd_a (c : Nat) (w : World) : (bdR 59 #[(1, .int .i64 c)]).run Tryz.prog w = .ok (.agg (ansV 0 c 0 (.slice none 0 0))) w := by kernel_rfl
theorem infoI : (Tryz.prog.info? 3).map (fun i => (i.zero, i.size, i.bytes)) = some (some (.int .i64 0), 1, 8) := by kernel_rfl
theorem apI_one {w : World} {b cp : Nat} {x : Int} (h : w.cell? ⟨b, 0, none⟩ = some (.int .i64 x)) (B : Nat) : ∃ ad cap w', (apI #[.slice (some ⟨B, 0, none⟩) 0 0, .slice (some ⟨b, 0, none⟩) 1 cp]).run Tryz.prog w = .ok (.slice ad 1 cap) w' ∧ w.grownBy w' none := by
  obtain ⟨i0, hi, hz0, hz1, hz2⟩ := info_parts infoI
  obtain ⟨v', w', hr, ho, hg⟩ := run_append_arg_grows (P := Tryz.prog) (w := w) 23 23 3 i0 _ 1 8 Tryz.underlying23 hi hz0 hz1 hz2 rfl (by decide) ⟨B, 0, none⟩ 0 0 [] rfl (fun j u hu => by simp at hu) ⟨b, 0, none⟩ 1 cp [.int .i64 x] rfl (fun j u hu => by
    cases j with
    | zero => simp at hu; subst hu; exact h
    | succ j => simp at hu) (by decide) (by unfold maxLen; omega) (by decide)
  obtain ⟨ad, cap, rfl⟩ := own_form ho
  exact ⟨ad, cap, w', hr, hg⟩
/-- the copy of a task: its space, no signal, what its last cell holds -/
structure TskC (C : Array Value) (v0 v37 : Value) : Prop where
  sz : C.size = 38
  one : C.all (·.oneCell') = true
  sg : ∀ j, j < 18 → C[19 + j]? = some (.int .i64 0)
  c0 : C[0]? = some v0
  cl : C[37]? = some v37
theorem TskC.set {C : Array Value} {v0 v37 : Value} (h : TskC C v0 v37) {i : Nat} (h1 : 1 ≤ i) (h2 : i ≤ 18) {v : Value} (hv : v.oneCell' = true) : TskC (C.setIfInBounds i v) v0 v37 := by
  refine ⟨by simp [h.sz], ?_, fun j hj => by rw [Array.getElem?_setIfInBounds, if_neg (by omega)]; exact h.sg j hj, by rw [Array.getElem?_setIfInBounds, if_neg (by omega)]; exact h.c0, by rw [Array.getElem?_setIfInBounds, if_neg (by omega)]; exact h.cl⟩
  have ho := h.one
  rw [Array.all_eq_true] at ho ⊢
  intro j hj
  rw [Array.getElem_setIfInBounds]
  split
  · exact hv
  · exact ho j (by simpa using hj)
theorem TskC.set0 {C : Array Value} {v0 v37 : Value} (h : TskC C v0 v37) {v : Value} (hv : v.oneCell' = true) : TskC (C.setIfInBounds 0 v) v v37 := by
  refine ⟨by simp [h.sz], ?_, fun j hj => by rw [Array.getElem?_setIfInBounds, if_neg (by omega)]; exact h.sg j hj, by rw [Array.getElem?_setIfInBounds, if_pos rfl, if_pos (by rw [h.sz]; decide)], by rw [Array.getElem?_setIfInBounds, if_neg (by omega)]; exact h.cl⟩
  have ho := h.one
  rw [Array.all_eq_true] at ho ⊢
  intro j hj
  rw [Array.getElem_setIfInBounds]
  split
  · exact hv
  · exact ho j (by simpa using hj)
theorem TskC.sigs {C : Array Value} {v0 v37 : Value} (h : TskC C v0 v37) : C.extract 19 (19 + 18) = SigLaw.cellsA SigLaw.zeroG := by
  apply Array.ext
  · simp [h.sz]; rfl
  · intro i h1 h2
    have hi : i < 18 := by simp [h.sz] at h1; omega
    have := h.sg i hi
    rw [Array.getElem_extract]
    rw [Array.getElem?_eq_getElem (by rw [h.sz]; omega)] at this
    injection this with this
    rw [this]
    have : i = 0 ∨ i = 1 ∨ i = 2 ∨ i = 3 ∨ i = 4 ∨ i = 5 ∨ i = 6 ∨ i = 7 ∨ i = 8 ∨ i = 9 ∨ i = 10 ∨ i = 11 ∨ i = 12 ∨ i = 13 ∨ i = 14 ∨ i = 15 ∨ i = 16 ∨ i = 17 := by omega
    rcases this with rfl | rfl | rfl | rfl | rfl | rfl | rfl | rfl | rfl | rfl | rfl | rfl | rfl | rfl | rfl | rfl | rfl | rfl <;> rfl
theorem TskC.putSig {C : Array Value} {v0 v37 : Value} (h : TskC C v0 v37) : putA C 19 (SigLaw.cellsA SigLaw.zeroG).toList = C := by
  apply Array.ext_getElem?
  intro j
  have hl : (SigLaw.cellsA SigLaw.zeroG).toList.length = 18 := rfl
  rw [putA_get (by rw [hl, h.sz]; decide), hl]
  by_cases hr : 19 ≤ j ∧ j < 19 + 18
  · rw [if_pos hr, ← h.sigs]
    simp only [Array.getElem?_toList]
    rw [Array.getElem?_extract]
    rw [if_pos (by rw [h.sz]; omega)]
    congr 1
    omega
  · rw [if_neg hr]
/-- the kernel while it forks: the answer's block, the copy of the task -/
structure FkS (s0 : KSt) (k : KC) (w w1 : World) (s : KSt) (C : Array Value) : Prop where
  kt : KT w1 k s
  ra : Row w1 w.heap.size 59 ansZ
  rt : Row w1 (w.heap.size + 1) 78 C
  up : Upd (fun j => s0.tag j ≠ 0) w w1
  far : ∀ j, s.tag j ≠ 0 → s0.tag j ≠ 0 ∨ w.heap.size + 2 ≤ j
  z : ∀ j, w.heap.size ≤ j → s0.tag j = 0
section
variable {w w1 w2 : World} {k : KC} {s0 s s' : KSt} {C : Array Value}
theorem FkS.tz (h : FkS s0 k w w1 s C) {j : Nat} (hj : w.heap.size ≤ j) (hj2 : j < w.heap.size + 2) : s.tag j = 0 := by
  cases Nat.eq_zero_or_pos (s.tag j) with
  | inl e => exact e
  | inr e =>
    rcases h.far j (by omega) with q | q
    · exact absurd (h.z j hj) q
    · omega
theorem FkS.step {S : Nat → Prop} (h : FkS s0 k w w1 s C) (hk : KT w2 k s') (hu : Upd S w1 w2) (hS : ∀ j, S j → s.tag j ≠ 0) (hf : ∀ j, s'.tag j ≠ 0 → s.tag j ≠ 0 ∨ w1.heap.size ≤ j) : FkS s0 k w w2 s' C := by
  have n : ∀ j, w.heap.size ≤ j → j < w.heap.size + 2 → ¬ S j := fun j h1 h2 q => hS j q (h.tz h1 h2)
  have l := h.rt.lt
  refine ⟨hk, h.ra.upd hu (n _ (by omega) (by omega)), h.rt.upd hu (n _ (by omega) (by omega)), h.up.trans' hu (fun i hi q => ?_), fun j hj => ?_, h.z⟩
  · rcases h.far i (hS i q) with e | e
    · exact e
    · omega
  · rcases hf j hj with e | e
    · exact h.far j e
    · exact .inr (by omega)
theorem FkS.keep (h : FkS s0 k w w1 s C) (hb : Below w1.heap.size w1 w2) : FkS s0 k w w2 s C := h.step (S := fun _ => False) (h.kt.keep hb) (Upd.below hb) (fun _ e => e.elim) (fun _ e => .inl e)
theorem FkS.row (h : FkS s0 k w w1 s C) (C' : Array Value) : FkS s0 k w (w1.setRow (w.heap.size + 1) C') s C' := by
  have u : Upd (fun j => j = w.heap.size + 1) w1 (w1.setRow (w.heap.size + 1) C') := Upd.setRow _ _ rfl
  exact ⟨h.kt.upd u (fun j hj e => hj (by rw [e]; exact h.tz (by omega) (by omega))), h.ra.upd u (by omega), h.rt.setRow C', h.up.trans' u (fun i hi e => by omega), h.far, h.z⟩
theorem FkS.fin (h : FkS s0 k w w1 s C) (X : Array Value) : KT (w1.setRow w.heap.size X) k s ∧ Upd (fun j => s0.tag j ≠ 0) w (w1.setRow w.heap.size X) := by
  have u : Upd (fun j => j = w.heap.size) w1 (w1.setRow w.heap.size X) := Upd.setRow _ _ rfl
  exact ⟨h.kt.upd u (fun j hj e => hj (by rw [e]; exact h.tz (by omega) (by omega))), h.up.trans' u (fun i hi e => by omega)⟩
theorem FkS.cell (h : FkS s0 k w w1 s C) (i : Nat) (v : Value) : FkS s0 k w (w1.setCell ⟨w.heap.size + 1, i, none⟩ v) s (C.setIfInBounds i v) := by
  rw [h.rt.setCell]
  exact h.row _
end
theorem tg_ne {tag : Nat → Nat} {B : Nat} {S : Nat → Prop} {i j : Nat} (h : tg tag B S i j ≠ 0) : tag j ≠ 0 ∨ B ≤ j := by
  rcases Nat.lt_or_ge j B with q | q
  · rw [tg_old q] at h; exact .inl h
  · exact .inr q
/-- what a memory must be for its space s1 to be forked into s2 -/
structure MayFork (m : MS) (s1 : Int) (b s2 : Nat) : Prop where
  hs : m.S s1 = some b
  wf : (Lit.int .i64 s1).wf = true
  h1 : 1 ≤ s2
  h16 : s2 ≤ 16
  h0 : m.S s2 = none
  bs : ∀ j : Nat, 1 ≤ j → j < s2 → ∃ b, m.S j = some b
  n : m.nS < 1000000
  lone : Lone (m.F b)
  pl : ∀ k g r, m.F b k = some (g, r) → g ∈ m.pl ∧ 0 ≤ m.u g ∧ m.u g < 1000000
  nF : m.nF b < 100000
theorem Forked.mB {m m' : MS} {s : Int} {s2 b nb B0 : Nat} (g : Forked m m' s s2 b nb) (hn : B0 ≤ nb) {M so j : Nat} (hj : mB M so m' j) : mB M so m j ∨ B0 ≤ j := by
  rcases hj with q | q | q | ⟨x, q⟩ | q
  · exact .inl (.inl q)
  · exact .inl (.inr (.inl q))
  · exact .inl (.inr (.inr (.inl (by rw [← g.pv]; exact q))))
  · rw [g.S] at q
    by_cases e : x = s2
    · simp only [e, if_true] at q
      injection q with q
      exact .inr (by omega)
    · simp only [if_neg e] at q
      exact .inl (.inr (.inr (.inr (.inl ⟨x, q⟩))))
  · exact .inl (.inr (.inr (.inr (.inr (by rw [← g.pl]; exact q)))))
theorem forkP_is {w : World} {b p c : Nat} {t : ProcLaw.T} (h : ProcLaw.TabAt w b t) (hp : ProcLaw.alive t p) (c1 : 1 ≤ c) (c16 : c ≤ 16) (hc : (t c).st = 0) (hb : ∀ j, 1 ≤ j → j < c → (t j).st ≠ 0) :
    Calls Tryz.prog 252 #[.pointer (some ⟨b, 0, none⟩), .int .i64 p] w fun e w' => e = .returned (.tuple #[.int .i64 c, .int .i64 0]) ∧ Upd (fun k => k = b) w w' ∧ ProcLaw.TabAt w' b (ProcLaw.forked t c p) := by
  refine (ProcLaw.fork_is p h).mono ?_
  rintro e w' ⟨r, en, t', rfl, hu, ht, hcase⟩
  rcases hcase with ⟨_, _, q⟩ | ⟨e0, k, q, hr, k1, k16, k0, kb, hq, _, ht'⟩
  · rcases q with q | q
    · exact absurd (ProcLaw.livR_alive hp) q
    · exact absurd hc (q c c1 c16)
  · have : q = p := by omega
    subst this
    have : k = c := by
      rcases Nat.lt_trichotomy k c with e | e | e
      · exact absurd k0 (hb k k1 e)
      · exact e
      · exact absurd hc (kb c c1 e)
    subst this
    rw [hr, e0]
    exact ⟨rfl, hu, ht' ▸ ht⟩
section
variable {w0 w : World} {k : KC} {s : KSt} {p c : Nat} {T : KSt → Int → Int → Int → Prop}
attribute [local go_sem ↓] ld_ans st_ans ld_tsk st_tsk ld_sig st_sig apI_eq apM_eq sl_mnt bd_ans
set_option maxRecDepth 100000 in
set_option maxHeartbeats 1000000 in
theorem kfork_is (h : KT w0 k s) (hp : ProcLaw.alive s.t p) (h1 : ∀ j, j < 38 → (s.c (8 + p * 38 + j)).oneCell' = true) {s1 : Int} {b s2 : Nat} (hsp : s.c (8 + p * 38) = .int .i64 s1) (hm : MayFork s.m s1 b s2)
    (c1 : 1 ≤ c) (c16 : c ≤ 16) (hc : (s.t c).st = 0) (hcb : ∀ j, 1 ≤ j → j < c → (s.t j).st ≠ 0) (hmo : s.c (8 + p * 38 + 13) = .slice none 0 0) {bw : Nat} (hcw : s.cw p = some bw) (hmt : s.c (8 + p * 38 + 18) = .slice none 0 0) (hsg : ∀ j, j < 18 → s.c (8 + p * 38 + 19 + j) = .int .i64 0) (hwn : s.cw c = none) (hid : idG s.l c = none) (hll : s.l.length < 1000) (hpc : p ≠ c) (hfd : ∀ i, i < 8 → s.fd (c * 8 + i) = 0) (hfs : ∀ k, k < 32 → 0 ≤ (s.fs k).n ∧ (s.fs k).n ≤ 200)
    (hT : ∀ m' nb (c' : Nat → Value) tag' ad' cap', w0.heap.size ≤ nb → Forked s.m m' s1 s2 b nb → (∀ j, (j < 8 + c * 38 ∨ 8 + c * 38 + 38 ≤ j) → c' j = s.c j) → c' (8 + c * 38) = .int .i64 s2 → (∀ j, j < 18 → c' (8 + c * 38 + 19 + j) = .int .i64 0) → c' (8 + c * 38 + 37) = s.c (8 + p * 38 + 37) → (∀ i, 4 ≤ i → i ≤ 10 → c' (8 + c * 38 + i) = s.c (8 + p * 38 + i)) → (∀ i, 1 ≤ i → i ≤ 3 → c' (8 + c * 38 + i) = .int .u32 0) → (∀ j, j < 38 → (c' (8 + c * 38 + j)).oneCell' = true) → T { tag := tag', c := c', t := ProcLaw.forked s.t c p, fs := OpenLaw.fkF s.fs (fun i => s.fd (p * 8 + i)) 8, fd := OpenLaw.cpD s.fd p c 8, ad := ad', cap := cap', l := enterL s.l c s.nc, m := m', cw := s.cw, nc := s.nc, tk := s.tk, fr := s.fr, sl := s.sl, wn := s.wn, wv := s.wv, wl := s.wl } 0 c 0) :
    Spec w0 (KOut w0.heap.size k s.tag T) 173 #[.pointer (some ⟨k.K, 0, none⟩), .int .i64 p] := by
  intro w h0
  have ok := kout_ok (k := k) (w0 := w0) (tag0 := s.tag) h.tz T
  have hk := (h.keep h0).keep (Go.Joins.below_alloc1 w (.cells ansZ 59))
  obtain ⟨p1, p16, pst⟩ := hp
  have l1 := ld_task_at hk.kr (o := 8 + p * 38) (by omega)
  have i17 : (p : Int) < 17 := by omega
  have j17 : (c : Int) < 17 := by omega
  obtain ⟨C0, hC0⟩ : ∃ C0, C0 = tskA s.c (8 + p * 38) := ⟨_, rfl⟩
  have hst := st0_new (w.alloc (.cells ansZ 59)) (T := 78) (c := #[.int .i64 0, .int .u32 0, .int .u32 0, .int .u32 0, .int .u32 0, .int .u32 0, .int .u32 0, .int .u32 0, .int .u32 0, .int .u32 0, .int .i64 0, .int .i64 0, .int .i64 0, .slice none 0 0, .int .i64 0, .int .i64 0, .int .i64 0, .slice none 0 0, .slice none 0 0, .int .i64 0, .int .i64 0, .int .i64 0, .int .i64 0, .int .i64 0, .int .i64 0, .int .i64 0, .int .i64 0, .int .i64 0, .int .i64 0, .int .i64 0, .int .i64 0, .int .i64 0, .int .i64 0, .int .i64 0, .int .i64 0, .int .i64 0, .int .i64 0, .bool false]) (cs := tskA s.c (8 + p * 38)) (by rw [tskA_size]; rfl) (by rw [tskA_size]; kernel_rfl) (tskA_one h1)
  rw [size_alloc1] at hst
  have hS : FkS s k w ((w.alloc (.cells ansZ 59)).alloc (.cells C0 78)) s C0 := by
    have z : ∀ j, w.heap.size ≤ j → s.tag j = 0 := fun j hj => h.tz j (Nat.le_trans h0.size hj)
    have rt := row_new (w.alloc (.cells ansZ 59)) 78 C0
    rw [size_alloc1] at rt
    exact ⟨hk.keep (Go.Joins.below_alloc1 _ _), (row_new w 59 ansZ).alloc _, rt, (Upd.alloc _ _).trans (Upd.alloc _ _), fun j hj => .inl hj, z⟩
  have HMK := Lib.hid (forkG_is (hS.kt.me.keep (Below.refl _ _).drew) hm.hs hm.wf hm.h1 hm.h16 hm.h0 hm.bs hm.n hm.lone hm.pl hm.nF)
  have HS := Lib.hid hS
  have HH := Lib.hid h
  have HOK := Lib.hid ok
  have H0 := Lib.hid h0
  have HCC := Lib.hid (And.intro hC0 (And.intro hsp h1))
  have HP := Lib.hid (And.intro (⟨p1, p16, pst⟩ : ProcLaw.alive s.t p) (And.intro c1 (And.intro c16 (And.intro hc hcb))))
  have HFD := Lib.hid (And.intro hpc (And.intro hfd hfs))
  rw [← hC0] at l1 hst
  have d0 : C0[0]? = some (.int .i64 s1) := by rw [hC0, tskA_get _ _ (by decide), Nat.add_zero, hsp]
  have HMO : Hid (C0[13]? = some (.slice none 0 0)) := Lib.hid (by rw [hC0, tskA_get _ _ (by decide), hmo])
  have HMT : Hid (C0[18]? = some (.slice none 0 0)) := Lib.hid (by rw [hC0, tskA_get _ _ (by decide), hmt])
  have HCW : Hid (∃ cp, C0[17]? = some (.slice (some ⟨bw, 0, none⟩) 1 cp)) := Lib.hid (by obtain ⟨⟨cp, q⟩, _⟩ := HH.out.cw p bw hcw; exact ⟨cp, by rw [hC0, tskA_get _ _ (by decide), q]⟩)
  have HWC := Lib.hid hcw
  have HWN := Lib.hid hwn
  have HT := Lib.hid hT
  have HID := Lib.hid (And.intro hid hll)
  have HTC : Hid (TskC C0 (.int .i64 s1) (s.c (8 + p * 38 + 37))) := Lib.hid (by
    rw [hC0]
    exact ⟨tskA_size _ _, tskA_one h1, fun j hj => by rw [tskA_get _ _ (by omega), show 8 + p * 38 + (19 + j) = 8 + p * 38 + 19 + j by omega, hsg j hj], by rw [tskA_get _ _ (by decide), Nat.add_zero, hsp], tskA_get _ _ (by decide)⟩)
  have HSG := Lib.hid hsg
  have HRG : Hid (∀ i, 4 ≤ i → i ≤ 10 → C0[i]? = some (s.c (8 + p * 38 + i))) := Lib.hid fun i h4 h10 => by rw [hC0, tskA_get _ _ (by omega)]
  clear h ok hk h0 hS hsp h1 hC0 hmo hcw hmt hsg hwn hid hll hm hc hcb hpc hfd hfs pst
  have hz : ansZ = #[.int .i64 0, .int .i64 0, .int .i64 0, .slice none 0 0, .slice none 0 0, .int .i64 0, .int .i64 0, .int .i64 0, .int .i64 0, .int .i64 0, .int .i64 0] := rfl
  rw [hz] at l1 hst HS HMK
  go_enter Tryz.func173, Tryz.ntmps173
  go_upto_region 2 with fail
  generalize (w.alloc (.cells #[.int .i64 0, .int .i64 0, .int .i64 0, .slice none 0 0, .slice none 0 0, .int .i64 0, .int .i64 0, .int .i64 0, .int .i64 0, .int .i64 0, .int .i64 0] 59)).alloc (.cells C0 78) = w1 at *
  clear l1 hst hz
  have q1 : w1.cell? ⟨k.K, 1, none⟩ = some (.pointer (some ⟨k.M, 0, none⟩)) := by rw [HS.out.kt.kr.cell (by decide), HS.out.kt.c1]
  have b0 : w1.cell? ⟨w.heap.size + 1, 0, none⟩ = some (.int .i64 s1) := by rw [HS.out.rt.cell, d0]
  go_region_held3 (fun wx => wx.cell? ⟨k.K, 1, none⟩ = some (.pointer (some ⟨k.M, 0, none⟩)) ∧ wx.cell? ⟨w.heap.size + 1, 0, none⟩ = some (.int .i64 s1)) (first | exact ⟨q1, b0⟩ | exact hS2 | assumption)
    ((go_at_call 251; (with_reducible refine HMK.out.mono ?_); rintro e2 w2 ⟨rfl, m', nb, hnb, hfk, hm2, hu2⟩; have hk2 := (HS.out.kt.keep (Below.refl _ _).drew).mem hm2 hu2 (fun j e => hfk.mB hnb e); have HS2 := Lib.hid (HS.out.step hk2 ((Upd.drew w1).trans hu2) (fun j e => by rw [HS.out.kt.tM j e]; decide) (fun j e => tg_ne e)); have hS2 := And.intro ((HS2.out.kt.kr.cell (j := 1) (by decide)).trans (congrArg some HS2.out.kt.c1)) ((HS2.out.rt.cell 0).trans d0); have HFK := Lib.hid hfk; clear hk2 hm2 hu2 hfk))
  have HNB : Hid (w0.heap.size ≤ nb) := Lib.hid (by have h1 := H0.out.size; have h2 := HS.out.rt.lt; have h3 : w1.heap.size ≤ nb := hnb; omega)
  have q7 : w2.cell? ⟨k.K, 7, none⟩ = some (.pointer (some ⟨k.Pr, 0, none⟩)) := by rw [HS2.out.kt.kr.cell (by decide), HS2.out.kt.c7]
  have HPF := Lib.hid (forkP_is HS2.out.kt.pr HP.out.1 c1 c16 HP.out.2.2.2.1 HP.out.2.2.2.2)
  clear q1 b0 hS2 HMK HS
  go_upto_region 10 with (first | (go_at_call 252; refine HPF.out.mono ?_; rintro e3 w3 ⟨rfl, hu3, ht3⟩; have hk3 := HS2.out.kt.procs ht3 hu3; have HS3 := Lib.hid (HS2.out.step hk3 hu3 (fun j e => by rw [e, HS2.out.kt.tPr]; decide) (fun j e => .inl e)); have q6 : w3.cell? ⟨k.K, 6, none⟩ = some (.pointer (some ⟨k.Fi, 0, none⟩)) := (by rw [HS3.out.kt.kr.cell (by decide), HS3.out.kt.c6]); have HOF := Lib.hid (OpenLaw.fork_is HS3.out.kt.fi p1 p16 c1 c16 HFD.out.1 HFD.out.2.1 HFD.out.2.2); clear hk3 ht3 hu3) | (go_at_call 253; refine HOF.out.mono ?_; rintro e4 w4 ⟨rfl, hkb, hf4⟩; have hk4 := HS3.out.kt.files hf4 (kb_upd hkb rfl); have HS4 := Lib.hid (HS3.out.step hk4 (kb_upd (S := fun j => j = k.Fi) hkb rfl) (fun j e => by rw [e, HS3.out.kt.tFi]; decide) (fun j e => .inl e)); clear hk4 hkb hf4))
  have f4 := HS4.out.rt.fz 0
  have b4 : w4.cell? ⟨w.heap.size + 1, 0, none⟩ = some (.int .i64 s1) := by rw [HS4.out.rt.cell, d0]
  clear q7 q6 HPF HOF HS2 HS3
  go_upto_region 11 with fail
  have HS5 := Lib.hid (HS4.out.cell 0 (.int .i64 s2))
  generalize w4.setCell ⟨w.heap.size + 1, 0, none⟩ (.int .i64 s2) = w5 at *
  clear f4 b4 HS4
  have HA5 := Lib.hid (HS5.out.keep (Go.Joins.below_alloc1 w5 (.cells #[] 3)))
  have f5 := HA5.out.rt.fz 13
  have b5 : (w5.alloc (.cells #[] 3)).cell? ⟨w.heap.size + 1, 13, none⟩ = some (.slice none 0 0) := by rw [HA5.out.rt.cell, Array.getElem?_setIfInBounds, if_neg (by decide), HMO.out]
  have hap := apI_nil (w5.alloc (.cells #[] 3)) w5.heap.size
  go_upto_region 12 with fail
  have HS6 := Lib.hid (HA5.out.cell 13 (.slice (some ⟨w5.heap.size, 0, none⟩) 0 0))
  clear hap f5 b5 HA5 HS5
  generalize (w5.alloc (.cells #[] 3)).setCell ⟨w.heap.size + 1, 13, none⟩ (.slice (some ⟨w5.heap.size, 0, none⟩) 0 0) = w6 at *
  have HA6 := Lib.hid (HS6.out.keep (Go.Joins.below_alloc1 w6 (.cells #[] 3)))
  obtain ⟨cp, hcp⟩ := HCW.out
  obtain ⟨_, hwc, _⟩ := HA6.out.kt.cw p bw HWC.out
  have b6 : (w6.alloc (.cells #[] 3)).cell? ⟨w.heap.size + 1, 17, none⟩ = some (.slice (some ⟨bw, 0, none⟩) 1 cp) := by rw [HA6.out.rt.cell, Array.getElem?_setIfInBounds, if_neg (by decide), Array.getElem?_setIfInBounds, if_neg (by decide), hcp]
  obtain ⟨ad, cap, w7, hap, hg7⟩ := apI_one (cp := cp) hwc w6.heap.size
  have HA7 := Lib.hid (HA6.out.keep ⟨hg7.os, hg7.tape, hg7.output, hg7.size, fun i hi => hg7.block i hi (by simp)⟩)
  have f7 := HA7.out.rt.fz 17
  have b7 : w7.cell? ⟨w.heap.size + 1, 17, none⟩ = some (.slice (some ⟨bw, 0, none⟩) 1 cp) := by rw [HA7.out.rt.cell, ← HA6.out.rt.cell, b6]
  clear hg7 hwc
  go_upto_region 13 with fail
  have HS8 := Lib.hid (HA7.out.cell 17 (.slice ad 1 cap))
  clear hap f7 b7 b6 HA7 HA6 HS6
  generalize w7.setCell ⟨w.heap.size + 1, 17, none⟩ (.slice ad 1 cap) = w8 at *
  have f8 := HS8.out.rt.fz 18
  have b8 : w8.cell? ⟨w.heap.size + 1, 18, none⟩ = some (.slice none 0 0) := by rw [HS8.out.rt.cell, Array.getElem?_setIfInBounds, if_neg (by decide), Array.getElem?_setIfInBounds, if_neg (by decide), Array.getElem?_setIfInBounds, if_neg (by decide), HMT.out]
  have hsl := slM_nil
  have hap := apM_nil
  go_region
  have HS9 := Lib.hid ((HS8.out.cell 18 (.slice none 0 0)).keep (Below.refl _ _).drew)
  have HT9 := Lib.hid ((((HTC.out.set0 (v := .int .i64 s2) rfl).set (i := 13) (v := .slice (some ⟨w5.heap.size, 0, none⟩) 0 0) (by decide) (by decide) rfl).set (i := 17) (v := .slice ad 1 cap) (by decide) (by decide) rfl).set (i := 18) (v := .slice none 0 0) (by decide) (by decide) rfl)
  clear f8 b8 hsl hap HS8
  have HRG9 : Hid (∀ i, 4 ≤ i → i ≤ 10 → ((((C0.setIfInBounds 0 (Value.int IntKind.i64 s2)).setIfInBounds 13 (.slice (some ⟨w5.heap.size, 0, none⟩) 0 0)).setIfInBounds 17 (.slice ad 1 cap)).setIfInBounds 18 (.slice none 0 0))[i]? = some (s.c (8 + p * 38 + i))) := Lib.hid fun i h4 h10 => by
    rw [Array.getElem?_setIfInBounds_ne (by omega), Array.getElem?_setIfInBounds_ne (by omega), Array.getElem?_setIfInBounds_ne (by omega), Array.getElem?_setIfInBounds_ne (by omega)]
    exact HRG.out i h4 h10
  clear HRG
  generalize (w8.setCell ⟨w.heap.size + 1, 18, none⟩ (.slice none 0 0)).drew = w9 at *
  generalize (((C0.setIfInBounds 0 (Value.int IntKind.i64 s2)).setIfInBounds 13 (.slice (some ⟨w5.heap.size, 0, none⟩) 0 0)).setIfInBounds 17 (.slice ad 1 cap)).setIfInBounds 18 (.slice none 0 0) = C9 at *
  have hls : (ldR 76 (.pointer (some ⟨w.heap.size + 1, 19, none⟩))).run Tryz.prog w9 = .ok (.agg (SigLaw.cellsA SigLaw.zeroG)) w9 := by
    rw [Row.ld HS9.out.rt (o := 19) (n := 18) (by rw [HT9.out.sz]; decide) Tryz.underlying76 rfl (by kernel_rfl), HT9.out.sigs]
  have HSC := Lib.hid (SigLaw.child_is w9)
  have HPS := Lib.hid (fun wx (h : Row wx (w.heap.size + 1) 78 C9) => Row.st h (o := 19) (U := 76) (cs := SigLaw.cellsA SigLaw.zeroG) (by rw [HT9.out.sz]; decide) (by kernel_rfl) (SigLaw.cellsA_one _))
  rw [HT9.out.putSig] at HPS
  generalize SigLaw.cellsA SigLaw.zeroG = ZG at *
  go_upto_region 15 with (go_at_call 254; refine HSC.out.mono ?_; rintro e10 w10 ⟨rfl, hb10⟩; have HA10 := Lib.hid (HS9.out.keep hb10); have hst := HPS.out w10 HA10.out.rt; have HS11 := Lib.hid (HA10.out.row C9); clear hb10; generalize w10.setRow (w.heap.size + 1) C9 = w11 at *)
  clear hls hst HSC HPS HA10 HS9
  have z11 := HT9.out.sz
  have x1 : ∃ x, w11.cell? ⟨w.heap.size + 1, 1, none⟩ = some x := ⟨_, by rw [HS11.out.rt.cell, Array.getElem?_eq_getElem (by rw [z11]; decide)]⟩
  have x2 : ∃ x, w11.cell? ⟨w.heap.size + 1, 2, none⟩ = some x := ⟨_, by rw [HS11.out.rt.cell, Array.getElem?_eq_getElem (by rw [z11]; decide)]⟩
  have x3 : ∃ x, w11.cell? ⟨w.heap.size + 1, 3, none⟩ = some x := ⟨_, by rw [HS11.out.rt.cell, Array.getElem?_eq_getElem (by rw [z11]; decide)]⟩
  obtain ⟨x1, b1⟩ := x1
  obtain ⟨x2, b2⟩ := x2
  obtain ⟨x3, b3⟩ := x3
  have f1 := HS11.out.rt.fz 1
  have f2 := HS11.out.rt.fz 2
  have f3 := HS11.out.rt.fz 3
  clear z11
  go_upto_region 16 with fail
  have HS12 := Lib.hid (((HS11.out.cell 1 (.int .u32 0)).cell 2 (.int .u32 0)).cell 3 (.int .u32 0))
  have HT12 := Lib.hid (((HT9.out.set (i := 1) (v := .int .u32 0) (by decide) (by decide) rfl).set (i := 2) (v := .int .u32 0) (by decide) (by decide) rfl).set (i := 3) (v := .int .u32 0) (by decide) (by decide) rfl)
  clear b1 b2 b3 f1 f2 f3 HS11
  have HRG12 : Hid (∀ i, 4 ≤ i → i ≤ 10 → (((C9.setIfInBounds 1 (Value.int IntKind.u32 0)).setIfInBounds 2 (.int .u32 0)).setIfInBounds 3 (.int .u32 0))[i]? = some (s.c (8 + p * 38 + i))) := Lib.hid fun i h4 h10 => by
    rw [Array.getElem?_setIfInBounds_ne (by omega), Array.getElem?_setIfInBounds_ne (by omega), Array.getElem?_setIfInBounds_ne (by omega)]
    exact HRG9.out i h4 h10
  have HR3 : Hid (∀ i, 1 ≤ i → i ≤ 3 → (((C9.setIfInBounds 1 (Value.int IntKind.u32 0)).setIfInBounds 2 (.int .u32 0)).setIfInBounds 3 (.int .u32 0))[i]? = some (.int .u32 0)) := Lib.hid fun i h4 h10 => by
    have := HT9.out.sz
    have e : i = 1 ∨ i = 2 ∨ i = 3 := by omega
    rcases e with rfl | rfl | rfl
    · rw [Array.getElem?_setIfInBounds_ne (by decide), Array.getElem?_setIfInBounds_ne (by decide), Array.getElem?_setIfInBounds, if_pos rfl, if_pos (by omega)]
    · rw [Array.getElem?_setIfInBounds_ne (by decide), Array.getElem?_setIfInBounds, if_pos rfl, if_pos (by simp; omega)]
    · rw [Array.getElem?_setIfInBounds, if_pos rfl, if_pos (by simp; omega)]
  clear HRG9
  generalize ((w11.setCell ⟨w.heap.size + 1, 1, none⟩ (.int .u32 0)).setCell ⟨w.heap.size + 1, 2, none⟩ (.int .u32 0)).setCell ⟨w.heap.size + 1, 3, none⟩ (.int .u32 0) = w12 at *
  generalize ((C9.setIfInBounds 1 (Value.int IntKind.u32 0)).setIfInBounds 2 (.int .u32 0)).setIfInBounds 3 (.int .u32 0) = C at *
  have HS13 := Lib.hid (HS12.out.keep (Below.refl _ _).drew)
  have hld := HS13.out.rt.ld0 (d := _) Tryz.underlying78 rfl (by rw [HT12.out.sz]; kernel_rfl)
  have hst := HS13.out.kt.kr.stT (o := 8 + c * 38) (by omega) HT12.out.sz HT12.out.one
  have HKP := Lib.hid (HS13.out.kt.kr.putT (C := C) (o := 8 + c * 38) (by omega) HT12.out.sz)
  have HUP : Hid (Upd (fun j => j = k.K) w12.drew (w12.drew.setRow k.K (putA (kerA s.c) (8 + c * 38) C.toList))) := Lib.hid (Upd.setRow _ _ rfl)
  generalize w12.drew.setRow k.K (putA (kerA s.c) (8 + c * 38) C.toList) = wK at *
  go_region
  have HC' : Hid (∃ c', c' = fun j => if 8 + c * 38 ≤ j ∧ j < 8 + c * 38 + 38 then (C[j - (8 + c * 38)]?).getD undef else s.c j) := Lib.hid ⟨_, rfl⟩
  obtain ⟨c', hc'⟩ := HC'.out
  rw [← hc'] at HKP
  have HCO : Hid (∀ j, (j < 8 + c * 38 ∨ 8 + c * 38 + 38 ≤ j) → c' j = s.c j) := Lib.hid fun j hj => by rw [hc']; exact if_neg (by omega)
  have HCI : Hid (∀ i, i < 38 → c' (8 + c * 38 + i) = (C[i]?).getD undef) := Lib.hid fun i hi => by rw [hc']; show (if _ then _ else _) = _; rw [if_pos (by omega), show 8 + c * 38 + i - (8 + c * 38) = i by omega]
  have HK14 := Lib.hid (HS13.out.kt.cells (c' := c') (cw' := s.cw) (tag' := tg s.tag w1.drew.heap.size (mB k.M k.so m') 6) HKP.out HUP.out (fun j hj => HCO.out j (.inl (by omega))) (fun _ _ => rfl) (fun j hj => HS13.out.kt.tz j (Nat.le_trans HUP.out.size hj)) (fun p' b' hb' => by
    obtain ⟨⟨cp, h1⟩, h2, h3, h4⟩ := HS13.out.kt.cw p' b' hb'
    have hne : p' ≠ c := fun e => by rw [e, HWN.out] at hb'; cases hb'
    have hbK : b' ≠ k.K := fun e => by rw [e, HS13.out.kt.tK] at h4; exact absurd h4 (by decide)
    exact ⟨⟨cp, by rw [HCO.out _ (by omega)]; exact h1⟩, (HUP.out.cell h3 hbK).trans h2, Nat.lt_of_lt_of_le h3 HUP.out.size, h4⟩))
  have HS14 := Lib.hid (HS13.out.step HK14.out HUP.out (fun j e => by rw [e, HS13.out.kt.tK]; decide) (fun j e => .inl e))
  clear hld hst HUP HKP HS12 HS13 hc' HC'
  have q4 : wK.cell? ⟨k.K, 4, none⟩ = some (.pointer (some ⟨k.R, 0, none⟩)) := by rw [HS14.out.kt.kr.cell (by decide), HS14.out.kt.c4]
  have HAD := Lib.hid (addG_is HS14.out.kt.ru (t := c) (by omega) (by omega) HID.out.1 (by have := HS14.out.kt.cn; omega) HID.out.2)
  have hbd := bd_a c
  go_upto_region 18 with (go_at_call 33; refine HAD.out.mono ?_; rintro e15 w15 ⟨rfl, ⟨T5, cp5, hr5, hT5⟩, hu5⟩; have hk15 := HS14.out.kt.run hr5 hu5 (fun j e => hT5.elim (fun q => .inl (by rw [q]; exact e)) (fun q => e.elim (fun e => .inl (.inl e)) (fun ⟨a, e1, e2⟩ => .inr (by injection e1 with e1; rw [e2, ← e1]; exact q)))); have HS15 := Lib.hid (HS14.out.step hk15 hu5 (fun j e => by rw [HS14.out.kt.tR j e]; decide) (fun j e => tg_ne e)))
  clear q4 HAD
  obtain ⟨hX, hone⟩ := ansN3 0 (c : Int) 0
  have hr := HS15.out.ra
  have hst := ans_st hr hX hone
  have HLD := Lib.hid (ans_ldV hr hX)
  obtain ⟨hk16, hu16⟩ := HS15.out.fin (ansV 0 c 0 (.slice none 0 0))
  have ho : Upd (fun j => j < w0.heap.size) w (w15.setRow w.heap.size (ansV 0 c 0 (.slice none 0 0))) ∧ KOut w0.heap.size k s.tag T w (ansV 0 c 0 (.slice none 0 0)) (w15.setRow w.heap.size (ansV 0 c 0 (.slice none 0 0))) := by
    refine ⟨hu16.mono fun j _ e => HH.out.lt e, _, 0, c, 0, hk16, fun j hj => ?_, rfl, ?_, hu16⟩
    · rcases HS15.out.far j hj with e | e
      · exact .inl e
      · exact .inr (by omega)
    · have hg : ∀ i x, i < 38 → C[i]? = some x → c' (8 + c * 38 + i) = x := fun i x hi hx => by rw [HCI.out i hi, hx]; rfl
      exact HT.out m' nb c' _ _ _ HNB.out HFK.out HCO.out (hg 0 _ (by decide) HT12.out.c0) (fun j hj => by rw [show 8 + c * 38 + 19 + j = 8 + c * 38 + (19 + j) by omega]; exact hg (19 + j) _ (by omega) (HT12.out.sg j hj)) (hg 37 _ (by decide) HT12.out.cl) (fun i h4 h10 => hg i _ (by omega) (HRG12.out i h4 h10)) (fun i h4 h10 => hg i _ (by omega) (HR3.out i h4 h10)) (fun j hj => by
        have hz := HT12.out.sz
        rw [HCI.out j hj, Array.getElem?_eq_getElem (by omega)]
        have ho := HT12.out.one
        rw [Array.all_eq_true] at ho
        exact ho j (by omega))
  have HO := Lib.hid ho
  have HX := Lib.hid (And.intro hX hone)
  clear hk16 hu16 ho hr hX hone HCI HCO HK14 HS14 HS15
  generalize ansV 0 c 0 (.slice none 0 0) = X at *
  generalize w15.setRow w.heap.size X = w16 at *
  go_wp2_with fail
  exact bodyPost_ret (v := .agg X) (by rw [results_cell1 rfl]; simp [asAddr, Result.andThen, HLD.out]) rfl ⟨X, rfl, HX.out.1, HX.out.2, HO.out.1, HO.out.2⟩
end
end Go.Proofs.YtnbhohaphmilmaaGreatDoor
