/- Pages in a slice of the call's own. -/
import Derived.Test.YtgdihccmkleimaaBootCheck
import Derived.Deep.AppendLies
namespace Go.Proofs.Ytgdihccmkleimaa.BootLaw
open Go.RowKit
set_option linter.unusedVariables false
set_option linter.unusedSimpArgs false
def cellsQ (qs : List (Pg × Value)) : List Value := (qs.map fun q => [Value.int .i64 q.1.pg, .int .i64 q.1.rt, q.2]).flatten
theorem cellsQ_push (qs : List (Pg × Value)) (p : Pg) (d : Value) : cellsQ (qs ++ [(p, d)]) = cellsQ qs ++ [.int .i64 p.pg, .int .i64 p.rt, d] := by simp [cellsQ]
theorem cellsQ_cons (q : Pg × Value) (qs : List (Pg × Value)) : cellsQ (q :: qs) = [.int .i64 q.1.pg, .int .i64 q.1.rt, q.2] ++ cellsQ qs := by simp [cellsQ]
theorem cellsQ_at : ∀ (qs : List (Pg × Value)) (i : Nat) (q : Pg × Value), qs[i]? = some q → (cellsQ qs)[i * 3]? = some (.int .i64 q.1.pg) ∧ (cellsQ qs)[i * 3 + 1]? = some (.int .i64 q.1.rt) ∧ (cellsQ qs)[i * 3 + 2]? = some q.2
  | [], i, q, h => by simp at h
  | q0 :: qs, 0, q, h => by
    simp at h
    subst h
    rw [cellsQ_cons]
    exact ⟨rfl, rfl, rfl⟩
  | q0 :: qs, i + 1, q, h => by
    rw [List.getElem?_cons_succ] at h
    obtain ⟨h0, h1, h2⟩ := cellsQ_at qs i q h
    rw [cellsQ_cons]
    have e : ∀ j, ([Value.int .i64 q0.1.pg, .int .i64 q0.1.rt, q0.2] ++ cellsQ qs)[j + 3]? = (cellsQ qs)[j]? := fun j => rfl
    rw [show (i + 1) * 3 = i * 3 + 3 by omega, show i * 3 + 3 + 1 = i * 3 + 1 + 3 by omega, show i * 3 + 3 + 2 = i * 3 + 2 + 3 by omega, e, e, e]
    exact ⟨h0, h1, h2⟩
theorem cellsQ_len : ∀ qs : List (Pg × Value), (cellsQ qs).length = qs.length * 3
  | [] => rfl
  | q :: qs => by rw [cellsQ_cons, List.length_append, cellsQ_len qs, List.length_cons]; simp; omega
theorem owns_keep {w w' : World} {B e s n : Nat} {v : Value} {l : List Value} (h : w.ownsRow B e s v n l) (hb : Below w.heap.size w w') : w'.ownsRow B e s v n l :=
  h.kept (row := none) ⟨hb.os, hb.tape, hb.output, hb.size, fun k hk _ => hb.block k hk⟩ (by cases hv : v.ownBlock <;> simp)
/-- pages that the call owns -/
def PgO (w : World) (B : Nat) (v : Value) (ps : List Pg) : Prop :=
  ∃ qs : List (Pg × Value), qs.map Prod.fst = ps ∧ w.ownsRow B 96 3 v qs.length (cellsQ qs) ∧ ∀ q ∈ qs, w.ownsRow B 5 1 q.2 q.1.da.length (q.1.da.map u8V) ∧ Apart v q.2
theorem PgO.nil (w : World) (B : Nat) : PgO w B (.slice none 0 0) [] := ⟨[], rfl, World.ownsRow_nil _ _ _ _, by simp⟩
theorem PgO.keep {w w' : World} {B : Nat} {v : Value} {ps : List Pg} (h : PgO w B v ps) (hb : Below w.heap.size w w') : PgO w' B v ps := by
  obtain ⟨qs, h1, h2, h3⟩ := h
  exact ⟨qs, h1, owns_keep h2 hb, fun q hq => ⟨owns_keep (h3 q hq).1 hb, (h3 q hq).2⟩⟩
/-- behind an append -/
theorem PgO.push {w w' : World} {B : Nat} {v v' d : Value} {qs : List (Pg × Value)} {ps : List Pg} {p : Pg} (h1 : qs.map Prod.fst = ps) (h3 : ∀ q ∈ qs, w.ownsRow B 5 1 q.2 q.1.da.length (q.1.da.map u8V) ∧ Apart v q.2) (hv : w.ownsRow B 96 3 v qs.length (cellsQ qs))
    (hd : w.ownsRow B 5 1 d p.da.length (p.da.map u8V)) (hap : Apart v d) (hown : w'.ownsRow B 96 3 v' (qs.length + 1) (cellsQ qs ++ [.int .i64 p.pg, .int .i64 p.rt, d])) (hgrow : w.grownBy w' v.ownBlock) (hfresh : v'.ownBlock = v.ownBlock ∨ ∃ g, w.heap.size ≤ g ∧ v'.ownBlock = some g) : PgO w' B v' (ps ++ [p]) := by
  refine ⟨qs ++ [(p, d)], by rw [List.map_append, h1]; rfl, by rw [cellsQ_push, List.length_append]; exact hown, fun q hq => ?_⟩
  rcases List.mem_append.1 hq with hq | hq
  · exact kept_apart (h3 q hq).1 hgrow hfresh (h3 q hq).2
  · simp at hq
    subst hq
    exact kept_apart hd hgrow hfresh hap
theorem PgO.slice {w : World} {B : Nat} {v : Value} {ps : List Pg} (h : PgO w B v ps) : ∃ a cap, v = .slice a ps.length cap := by
  obtain ⟨qs, h1, h2, h3⟩ := h
  have hl : ps.length = qs.length := by rw [← h1, List.length_map]
  rcases h2.2 with ⟨rfl, hn⟩ | ⟨g, cap', cur, rfl, _⟩
  · exact ⟨none, 0, by rw [hl, hn]⟩
  · exact ⟨_, cap', by rw [hl]⟩
/-- what is owned can be read -/
theorem PgO.read {w : World} {B : Nat} {v : Value} {ps : List Pg} (h : PgO w B v ps) (h16 : ∀ i, i < ps.length → (pAt ps i).da.length ≤ 16) : PgS w v ps := by
  obtain ⟨qs, h1, h2, h3⟩ := h
  have hl : ps.length = qs.length := by rw [← h1, List.length_map]
  rcases h2.2 with ⟨rfl, hn⟩ | ⟨g, cap', cur, rfl, hb, hg, hnc, hcm, hcs, htake⟩
  · exact ⟨none, 0, by rw [hl, hn], by rw [hl, hn]; exact Nat.le_refl _, Nat.zero_le _, .inl (List.eq_nil_of_length_eq_zero (hl.trans hn))⟩
  · refine ⟨_, cap', by rw [hl], by rw [hl]; exact hnc, hcm, .inr ⟨g, 0, fun i => ((qs[i]?).map Prod.snd).getD undef, rfl, (Array.getElem?_eq_some_iff.1 hg).1, fun i hi => ?_⟩⟩
    have hi' : i < qs.length := by omega
    have hq : qs[i]? = some qs[i] := List.getElem?_eq_getElem hi'
    have hp : pAt ps i = qs[i].1 := by
      unfold pAt
      rw [← h1, List.getD_eq_getElem?_getD, List.getElem?_map, hq]
      rfl
    obtain ⟨c0, c1, c2⟩ := cellsQ_at qs i _ hq
    have hm := h3 _ (List.getElem_mem hi')
    have h16' := h16 i hi
    rw [hp] at h16' ⊢
    have hcell : ∀ j x, (cellsQ qs)[j]? = some x → w.cell? ⟨g, 0 + j, none⟩ = some x := by
      intro j x hx
      rw [Nat.zero_add]
      have hjl : j < (cellsQ qs).length := (List.getElem?_eq_some_iff.1 hx).1
      exact (h2.cellAt j (by rw [← cellsQ_len]; exact hjl)).trans hx
    have eD : ((qs[i]?).map Prod.snd).getD undef = qs[i].2 := by rw [hq]; rfl
    refine ⟨by rw [hcell _ _ c0], by rw [Nat.add_assoc, hcell _ _ c1], ?_, ?_⟩
    · rw [Nat.add_assoc, hcell _ _ c2]
      exact congrArg some eD.symm
    · show BS w (((qs[i]?).map Prod.snd).getD undef) _
      rw [eD]
      exact bs_of hm.1 rfl (by omega)
section
variable {P : Program} {w : World}
/-- an append in a region that draws its order -/
theorem step_append_fresh {ops : Array Oper} {o : Oper} {a : Act} {K : Act → World → Prop} {Q : Exit → Act → World → Prop} {E : Prop} (hgd : o.guard = none) (s x : Operand) (t : TypeId)
    (ho : o.op = .call { callee := .builtin .append, args := #[s, x], argTypes := #[t, t] })
    (base : Nat) (e : TypeId) (i : TypeInfo) (z : Value) (size bytes : Nat) (ht : P.underlying t = some (.slice e)) (hi : P.info? e = some i) (hz : i.zero = some z)
    (hsize : i.size = size) (hby : i.bytes = bytes) (hzs : z.cells.size = size) (hsz : 0 < size)
    (v : Value) (n : Nat) (xs : List Value) (hs : a.eval s = v) (hown : w.ownsRow base e size v n xs)
    (ad : Addr) (m c : Nat) (news : List Value) (hx : a.eval x = .slice (some ad) m c) (hl : news.length = m * size) (hnews : ∀ j u, news[j]? = some u → w.cell? (ad.add j) = some u) (h1 : ∀ u ∈ news, u.oneCell' = true)
    (h63 : n + m ≤ maxLen) (hbytes : (n + m) * bytes ≤ 140737488355328) (hbase : base ≤ w.heap.size)
    (h : ∀ v' w', w'.ownsRow base e size v' (n + m) (xs ++ news) → w.grownBy w' v.ownBlock → (v'.ownBlock = v.ownBlock ∨ ∃ g, w.heap.size ≤ g ∧ v'.ownBlock = some g) → K (a.put o.dst v') w') :
    if Region.wanted o (yielded ops a.tmps) = true then Oper.wp P o a w K Q else E := by
  have hw : Region.wanted o (yielded ops a.tmps) = true := by simp [Region.wanted, hgd]
  rw [if_pos hw]
  obtain ⟨v', w', hr, h2, h3, h4⟩ := run_append_fresh (P := P) w base t o.type e i z size bytes ht hi hz hsize hby hzs hsz v n xs hown ad m c news hl hnews h1 h63 hbytes hbase
  unfold Oper.wp execOp
  simp only [ho, resolve, invoke, builtin, Sem.run_bind, Sem.run_pure, Result.andThen_ok, List.map_toArray, List.map_cons, List.map_nil, hs, hx, hr]
  exact h v' w' h2 h3 h4
end
theorem info96 : (Try.prog.info? 96).map (fun i => (i.zero, i.size, i.bytes)) = some (some (.agg #[.int .i64 0, .int .i64 0, .slice none 0 0]), 3, 40) := by kernel_rfl
end Go.Proofs.Ytgdihccmkleimaa.BootLaw
