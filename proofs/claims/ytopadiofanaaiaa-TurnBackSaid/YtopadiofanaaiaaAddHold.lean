/- What TurnAdds holds while it builds its programs: four slices of its own. -/
import Derived.Test.YtopadiofanaaiaaAddPlain
namespace Go.Proofs.Ytopadiofanaaiaa.TurnLaw
open Go.RowKit
set_option linter.unusedVariables false

def encD (d : D) : List Value := [.int .i64 (d.1 : Nat), .int .i64 (d.2.1 : Nat), .int .i64 (d.2.2 : Nat)]
theorem encD_len (p : List D) : (p.flatMap encD).length = p.length * 3 := by
  induction p with
  | nil => rfl
  | cons d t ih => rw [List.flatMap_cons, List.length_append, ih]; simp [encD]; omega
theorem encD_get {p : List D} {j : Nat} (h : j < p.length) : (p.flatMap encD)[j * 3]? = some (.int .i64 ((dAt p j).1 : Nat)) ∧ (p.flatMap encD)[j * 3 + 1]? = some (.int .i64 ((dAt p j).2.1 : Nat)) ∧ (p.flatMap encD)[j * 3 + 2]? = some (.int .i64 ((dAt p j).2.2 : Nat)) := by
  induction p generalizing j with
  | nil => simp at h
  | cons d t ih =>
    cases j with
    | zero => exact ⟨rfl, rfl, rfl⟩
    | succ j =>
      have := ih (j := j) (by simpa using h)
      have e1 : (j + 1) * 3 = j * 3 + 3 := by omega
      rw [e1]
      exact this
theorem prog_of_owned {w : World} {B g cap : Nat} {p : List D} (h : w.ownsRow B 38 3 (.slice (some ⟨g, 0, none⟩) p.length cap) p.length (p.flatMap encD)) : ProgAt w g p := by
  refine ⟨(h.lt g rfl).2, fun j hj => ?_⟩
  obtain ⟨h0, h1, h2⟩ := encD_get hj
  exact ⟨(h.cellAt (j * 3) (by omega)).trans h0, (h.cellAt (j * 3 + 1) (by omega)).trans h1, (h.cellAt (j * 3 + 2) (by omega)).trans h2⟩

def PXs (w : World) (v vW vP : Value) (ps : List (List D)) (vals : List Value) : Prop :=
  vals.length = ps.length ∧ ∀ j, j < ps.length → ∃ pa pc, vals[j]? = some (.slice pa (pAt ps j).length pc) ∧ (pAt ps j = [] ∨ ∃ b, pa = some ⟨b, 0, none⟩ ∧ ProgAt w b (pAt ps j) ∧ v.ownBlock ≠ some b ∧ vW.ownBlock ≠ some b ∧ vP.ownBlock ≠ some b)
structure TA (B : Nat) (w0 w : World) (vW vR vP : Value) (want : List Nat) (ps : List (List D)) (p : List D) : Prop where
  bel : Below B w0 w
  size : B ≤ w.heap.size
  W : U32Row w B vW want
  P : w.ownsRow B 38 3 vP p.length (p.flatMap encD)
  R : ∃ vals, w.ownsRow B 35 1 vR ps.length vals ∧ PXs w vR vW vP ps vals
  wr : Apart vW vR
  wp : Apart vW vP
  rp : Apart vR vP
theorem PXs.grown {w w' : World} {v vW vP vW' vP' : Value} {ps : List (List D)} {vals : List Value} {g : Option Nat} (h : PXs w v vW vP ps vals) (hg : w.grownBy w' g) (hne : ∀ b, v.ownBlock ≠ some b → vW.ownBlock ≠ some b → vP.ownBlock ≠ some b → g ≠ some b)
    (hW : ∀ b, b < w.heap.size → vW.ownBlock ≠ some b → vW'.ownBlock ≠ some b) (hP : ∀ b, b < w.heap.size → vP.ownBlock ≠ some b → vP'.ownBlock ≠ some b) : PXs w' v vW' vP' ps vals := by
  refine ⟨h.1, fun j hj => ?_⟩
  obtain ⟨pa, pc, hv, hq⟩ := h.2 j hj
  refine ⟨pa, pc, hv, ?_⟩
  rcases hq with hq | ⟨b, hb, hp, h1, h2, h3⟩
  · exact .inl hq
  · exact .inr ⟨b, hb, hp.grown hg (hne b h1 h2 h3), h1, hW b hp.1 h2, hP b hp.1 h3⟩
theorem fresh_ne {w : World} {v v7 : Value} (fresh7 : v7.ownBlock = v.ownBlock ∨ ∃ g, w.heap.size ≤ g ∧ v7.ownBlock = some g) : ∀ b, b < w.heap.size → v.ownBlock ≠ some b → v7.ownBlock ≠ some b := by
  intro b hb h
  rcases fresh7 with e | ⟨g, h1, h2⟩
  · rw [e]; exact h
  · rw [h2]; intro e; have := Option.some.inj e; omega
section
variable {B : Nat} {w0 w w7 : World} {vW vR vP v7 : Value} {want : List Nat} {ps : List (List D)} {p : List D}
theorem TA.alloc (t : TA B w0 w vW vR vP want ps p) (o : Obj) : TA B w0 (w.alloc o) vW vR vP want ps p := by
  obtain ⟨vals, hR, hX⟩ := t.R
  exact ⟨t.bel.alloc t.size o, by have := t.size; simp; omega, t.W.alloc o, t.P.alloc o, ⟨vals, hR.alloc o, hX.grown (World.grownBy_alloc w o none) (fun _ _ _ _ => by simp) (fun _ _ h => h) (fun _ _ h => h)⟩, t.wr, t.wp, t.rp⟩
theorem TA.appP (t : TA B w0 w vW vR vP want ps p) {d : D} (own7 : w7.ownsRow B 38 3 v7 (p.length + 1) (p.flatMap encD ++ encD d)) (grow7 : w.grownBy w7 vP.ownBlock) (fresh7 : v7.ownBlock = vP.ownBlock ∨ ∃ g, w.heap.size ≤ g ∧ v7.ownBlock = some g) : TA B w0 w7 vW vR v7 want ps (p ++ [d]) := by
  obtain ⟨vals, hR, hX⟩ := t.R
  have h1 := kept_apart t.W grow7 fresh7 t.wp.symm
  have h2 := kept_apart hR grow7 fresh7 t.rp.symm
  refine ⟨t.bel.grown grow7 t.size (fun g hg => (t.P.lt g hg).1), Nat.le_trans t.size grow7.size, h1.1, ?_, ⟨vals, h2.1, hX.grown grow7 (fun _ _ _ h => h) (fun _ _ h => h) (fresh_ne fresh7)⟩, t.wr, h1.2.symm, h2.2.symm⟩
  simpa using own7
theorem TA.setW {g cap : Nat} (t : TA B w0 w (.slice (some ⟨g, 0, none⟩) want.length cap) vR vP want ps p) (i x : Nat) : TA B w0 (w.setCell ⟨g, i, none⟩ (.int .u32 x)) (.slice (some ⟨g, 0, none⟩) want.length cap) vR vP (want.set i x) ps p := by
  obtain ⟨vals, hR, hX⟩ := t.R
  have hst := t.W.stored i (u32V x)
  have h1 := kept_apart hR hst.2 (v1 := .slice (some ⟨g, 0, none⟩) want.length cap) (.inl rfl) t.wr
  have h2 := kept_apart t.P hst.2 (v1 := .slice (some ⟨g, 0, none⟩) want.length cap) (.inl rfl) t.wp
  refine ⟨t.bel.setCell (t.W.lt g rfl).1 _, by have := t.size; simpa using this, ?_, h2.1, ⟨vals, h1.1, hX.grown hst.2 (fun _ _ h _ => h) (fun _ _ h => h) (fun _ _ h => h)⟩, t.wr, t.wp, t.rp⟩
  have := hst.1
  rw [show (want.map u32V).set i (u32V x) = (want.set i x).map u32V from by rw [List.map_set]] at this
  unfold U32Row
  rw [List.length_set]
  exact this
theorem TA.appR {pa : Option Addr} {pc : Nat} (t : TA B w0 w vW vR (.slice pa p.length pc) want ps p) {vals : List Value} (hX : PXs w vR vW (.slice pa p.length pc) ps vals) (own7 : w7.ownsRow B 35 1 v7 (ps.length + 1) (vals ++ [.slice pa p.length pc])) (grow7 : w.grownBy w7 vR.ownBlock) (fresh7 : v7.ownBlock = vR.ownBlock ∨ ∃ g, w.heap.size ≤ g ∧ v7.ownBlock = some g) : TA B w0 w7 vW v7 (.slice none 0 0) want (ps ++ [p]) [] := by
  have h1 := kept_apart t.W grow7 fresh7 t.wr.symm
  have hRlt : ∀ g, vR.ownBlock = some g → B ≤ g := by
    obtain ⟨_, hR, _⟩ := t.R
    exact fun g hg => (hR.lt g hg).1
  have hnew : p = [] ∨ ∃ b, pa = some ⟨b, 0, none⟩ ∧ ProgAt w b p ∧ vR.ownBlock ≠ some b ∧ vW.ownBlock ≠ some b := by
    rcases t.P.2 with ⟨_, hn⟩ | ⟨g, cap, cur, hv, _⟩
    · exact .inl (List.eq_nil_of_length_eq_zero hn)
    · simp only [Value.slice.injEq] at hv
      obtain ⟨rfl, _, rfl⟩ := hv
      exact .inr ⟨g, rfl, prog_of_owned t.P, fun e => t.rp g e rfl, fun e => t.wp g e rfl⟩
  refine ⟨t.bel.grown grow7 t.size hRlt, Nat.le_trans t.size grow7.size, h1.1, World.ownsRow_nil _ _ _ _, ⟨vals ++ [.slice pa p.length pc], by simpa using own7, by simp [hX.1], fun j hj => ?_⟩, h1.2.symm, (apart_nil _).symm, (apart_nil _).symm⟩
  rcases Nat.lt_or_ge j ps.length with hl | hl
  · obtain ⟨pa', pc', hv, hq⟩ := hX.2 j hl
    rw [pAt_left hl]
    refine ⟨pa', pc', by rw [List.getElem?_append_left (by rw [hX.1]; omega)]; exact hv, ?_⟩
    rcases hq with hq | ⟨b, hb, hq, h1, h2, h3⟩
    · exact .inl hq
    · exact .inr ⟨b, hb, hq.grown grow7 h1, fresh_ne fresh7 b hq.1 h1, h2, by simp [Value.ownBlock]⟩
  · have hje : j = ps.length := by simp at hj; omega
    subst hje
    rw [pAt_last]
    refine ⟨pa, pc, by rw [List.getElem?_append_right (by rw [hX.1]; omega), hX.1]; simp, ?_⟩
    rcases hnew with hq | ⟨b, hb, hq, h1, h2⟩
    · exact .inl hq
    · exact .inr ⟨b, hb, hq.grown grow7 h1, fresh_ne fresh7 b hq.1 h1, h2, by simp [Value.ownBlock]⟩
theorem TA.progs (t : TA B w0 w vW vR vP want ps p) : Progs w vR ps := by
  obtain ⟨vals, hown, hX⟩ := t.R
  rcases hown.2 with ⟨rfl, hn⟩ | ⟨g, cap, cur, rfl, hb, hg, _⟩
  · exact ⟨none, 0, by rw [hn], .inl (List.eq_nil_of_length_eq_zero hn)⟩
  · refine ⟨_, cap, rfl, .inr ⟨g, rfl, (Array.getElem?_eq_some_iff.1 hg).1, fun i hi => ?_⟩⟩
    obtain ⟨pa, pc, hv, hq⟩ := hX.2 i hi
    refine ⟨pa, pc, (hown.cellAt i (by omega)).trans hv, ?_⟩
    rcases hq with hq | ⟨b, hb, hq, _⟩
    · exact .inl hq
    · exact .inr ⟨b, hb, hq⟩
theorem TA.cellW {g n cap : Nat} (t : TA B w0 w (.slice (some ⟨g, 0, none⟩) n cap) vR vP want ps p) (hn : want.length = n) {i : Nat} (h : i < n) : w.cell? ⟨g, i, none⟩ = some (.int .u32 (want.getD i 0 : Nat)) := by
  subst hn
  exact hand_cell t.W h
theorem TA.frozenW {g n cap : Nat} (t : TA B w0 w (.slice (some ⟨g, 0, none⟩) n cap) vR vP want ps p) (hn : want.length = n) (i : Nat) : w.frozen? ⟨g, i, none⟩ = false := by
  subst hn
  exact t.W.frozenAt i
theorem TA.setW' {g n cap : Nat} (t : TA B w0 w (.slice (some ⟨g, 0, none⟩) n cap) vR vP want ps p) (hn : want.length = n) (i x : Nat) : TA B w0 (w.setCell ⟨g, i, none⟩ (.int .u32 x)) (.slice (some ⟨g, 0, none⟩) n cap) vR vP (want.set i x) ps p := by
  subst hn
  exact t.setW i x
end
theorem info38 : (Try.prog.info? 38).map (fun i => (i.zero, i.size, i.bytes)) = some (some (.agg #[.int .i64 0, .int .i64 0, .int .i64 0]), 3, 24) := by kernel_rfl
theorem u32_prefix {w : World} {a : Option Addr} {n0 cap : Nat} {xs : List Int} (h : At (Value.int .u32) 0 w (.slice a n0 cap) xs) (hx : ∀ x ∈ xs, (Lit.int .u32 x).wf = true) {c : Nat} (hc : c ≤ xs.length) : ∃ cs : List Nat, cs.length = c ∧ U32S w (.slice a c cap) cs ∧ ∀ x ∈ cs, x < 4294967296 := by
  have hb : ∀ x ∈ xs, 0 ≤ x ∧ x < 4294967296 := by
    intro x hm
    have := bounds_u32 (hx x hm)
    omega
  obtain ⟨a', cap', hv, hl, hm, h⟩ := h
  simp only [Value.slice.injEq] at hv
  obtain ⟨rfl, rfl, rfl⟩ := hv
  refine ⟨(xs.take c).map Int.toNat, by simp; omega, ⟨a, cap, by simp [Nat.min_eq_left hc], by simp; omega, hm, ?_⟩, ?_⟩
  · rcases h with h | ⟨b, off, ha, hbk, hcell⟩
    · subst h; exact .inl (by simp)
    · refine .inr ⟨b, off, ha, hbk, fun i hi => ?_⟩
      have hi' : i < xs.length := by simp at hi; omega
      have hic : i < c := by simp at hi; omega
      rw [hcell i hi']
      have h0 := (hb xs[i] (List.getElem_mem hi')).1
      simp [u32V, List.getD, hi', hic]
      omega
  · intro y hy
    obtain ⟨x, hxm, rfl⟩ := List.mem_map.1 hy
    have := hb x (List.mem_of_mem_take hxm)
    omega
end Go.Proofs.Ytopadiofanaaiaa.TurnLaw
