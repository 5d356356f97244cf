/- The walk of load.File. -/
import Derived.Test.YtgdihccmkleimaaBootPage
import Derived.Lib.SlBytesConst
namespace Go.Proofs.Ytgdihccmkleimaa.BootLaw
open Go.RowKit
set_option linter.unusedVariables false
set_option linter.unusedSimpArgs false
theorem PgO.grown {w w' : World} {B : Nat} {v : Value} {ps : List Pg} {row : Option Nat} (h : PgO w B v ps) (hg : w.grownBy w' row) (hr : ∀ g, row = some g → g < B) : PgO w' B v ps := by
  obtain ⟨qs, h1, h2, h3⟩ := h
  have key : ∀ {e s n : Nat} {u : Value} {l : List Value}, w.ownsRow B e s u n l → (u.ownBlock = none ∨ u.ownBlock ≠ row) := by
    intro e s n u l ho
    cases hu : u.ownBlock with
    | none => exact .inl rfl
    | some g => exact .inr (fun hh => by have := (ho.lt g hu).1; have := hr g hh.symm; omega)
  exact ⟨qs, h1, h2.kept hg (key h2), fun q hq => ⟨(h3 q hq).1.kept hg (key (h3 q hq).1), (h3 q hq).2⟩⟩
def app24 := Builtin.append_ #[24, 24] 24
theorem app24_eq : Builtin.append_ #[24, 24] 24 = app24 := rfl
def LI (e : Nat) (ps : List Pg) (i : Nat) : List Int := headR e ps.length ++ encs ((trims ps).take i)
theorem LI_zero (e : Nat) (ps : List Pg) : LI e ps 0 = headR e ps.length := by simp [LI, encs]
theorem LI_all (e : Nat) (ps : List Pg) : LI e ps ps.length = bodyR e ps := by unfold LI bodyR; rw [← trims_length ps, List.take_length]
theorem LI_succ {e : Nat} {ps : List Pg} {i : Nat} (h : i < ps.length) : LI e ps (i + 1) = (LI e ps i ++ [(pAt (trims ps) i).pg, (pAt (trims ps) i).rt, ((pAt (trims ps) i).da.length : Int)]) ++ (pAt (trims ps) i).da := by
  have h' : i < (trims ps).length := by rw [trims_length]; exact h
  unfold LI
  rw [List.take_succ_eq_append_getElem h', encs_append]
  have : pAt (trims ps) i = (trims ps)[i] := by unfold pAt; rw [List.getD_eq_getElem?_getD, List.getElem?_eq_getElem h']; rfl
  rw [this]
  simp [encs, encP]
theorem Byt.take {l : List Int} (h : Byt l) (n : Nat) : Byt (l.take n) := fun x hx => h x (List.mem_of_mem_take hx)
theorem PgO.pick {w : World} {B : Nat} {v : Value} {ps : List Pg} {i : Nat} (h : PgO w B v ps) (hi : i < ps.length) (h16 : (pAt ps i).da.length ≤ 16) : ∃ (g cap : Nat) (d : Value), v = .slice (some ⟨g, 0, none⟩) ps.length cap ∧ ∀ (w' : World) (row : Option Nat), w.grownBy w' row → (∀ g, row = some g → g < B) →
    w'.cell? ⟨g, i * 3, none⟩ = some (.int .i64 (pAt ps i).pg) ∧ w'.cell? ⟨g, i * 3 + 1, none⟩ = some (.int .i64 (pAt ps i).rt) ∧ w'.cell? ⟨g, i * 3 + 2, none⟩ = some d ∧ BS w' d (pAt ps i).da := by
  obtain ⟨qs, h1, h2, h3⟩ := h
  have hl : ps.length = qs.length := by rw [← h1, List.length_map]
  rcases h2.2 with ⟨rfl, hn⟩ | ⟨g, cap', cur, rfl, hb, hg, hnc, hcm, hcs, htake⟩
  · omega
  · have hi' : i < qs.length := by omega
    have hq : qs[i]? = some qs[i] := List.getElem?_eq_getElem hi'
    have hp : pAt ps i = qs[i].1 := by
      unfold pAt
      rw [← h1, List.getD_eq_getElem?_getD, List.getElem?_map, hq]
      rfl
    refine ⟨g, cap', qs[i].2, by rw [hl], fun w' row hgr hr => ?_⟩
    have key : ∀ {e s n : Nat} {u : Value} {l : List Value}, w.ownsRow B e s u n l → (u.ownBlock = none ∨ u.ownBlock ≠ row) := by
      intro e s n u l ho
      cases hu : u.ownBlock with
      | none => exact .inl rfl
      | some g => exact .inr (fun hh => by have := (ho.lt g hu).1; have := hr g hh.symm; omega)
    have k2 := h2.kept hgr (key h2)
    have hm := h3 _ (List.getElem_mem hi')
    have k3 := hm.1.kept hgr (key hm.1)
    obtain ⟨c0, c1, c2⟩ := cellsQ_at qs i _ hq
    have hcell : ∀ j x, (cellsQ qs)[j]? = some x → w'.cell? ⟨g, j, none⟩ = some x := by
      intro j x hx
      have hjl : j < (cellsQ qs).length := (List.getElem?_eq_some_iff.1 hx).1
      exact (k2.cellAt j (by rw [← cellsQ_len]; exact hjl)).trans hx
    rw [hp] at h16 ⊢
    exact ⟨hcell _ _ c0, hcell _ _ c1, hcell _ _ c2, bs_of k3 rfl (by omega)⟩
section
variable {P : Program} {w : World}
theorem run_append_none (base : Nat) (t ty e : TypeId) (i : TypeInfo) (size c : Nat) (ht : P.underlying t = some (.slice e)) (hi : P.info? e = some i)
    (v : Value) (n : Nat) (xs : List Value) (hown : w.ownsRow base e size v n xs) :
    (Builtin.append_ #[t, t] ty #[v, .slice none 0 c]).run P w = .ok v w := by
  rcases hown.2 with ⟨rfl, rfl⟩ | ⟨g, cap, cur, rfl, _, _, hnc, _⟩
  · simp [Builtin.append_, run_underlying ht, sizeOf, typeInfo, hi, Builtin.lenOf, Builtin.firstCells]
  · simp [Builtin.append_, run_underlying ht, sizeOf, typeInfo, hi, Builtin.lenOf, Builtin.firstCells, hnc, storeCells]
theorem step_append_run {ops : Array Oper} {o : Oper} {a : Act} {K : Act → World → Prop} {Q : Exit → Act → World → Prop} {E : Prop} (hgd : o.guard = none) (s x : Operand) (t : TypeId)
    (ho : o.op = .call { callee := .builtin .append, args := #[s, x], argTypes := #[t, t] }) {v' : Value} {w' : World}
    (hr : (Builtin.append_ #[t, t] o.type #[a.eval s, a.eval x]).run P w = .ok v' w') (h : K (a.put o.dst v') w') :
    if Region.wanted o (yielded ops a.tmps) = true then Oper.wp P o a w K Q else E := by
  have hw : Region.wanted o (yielded ops a.tmps) = true := by simp [Region.wanted, hgd]
  rw [if_pos hw]
  unfold Oper.wp execOp
  simp only [ho, resolve, invoke, builtin, Sem.run_bind, Sem.run_pure, Result.andThen_ok, List.map_toArray, List.map_cons, List.map_nil, hr]
  exact h
end
/-- bytes behind owned bytes, from a slice that may be nil -/
theorem run_append_bs {w : World} (base : Nat) (i0 : TypeInfo) (hi : Try.prog.info? 5 = some i0) (hz0 : i0.zero = some (.int .u8 0)) (hz1 : i0.size = 1) (hz2 : i0.bytes = 1) (v : Value) (n : Nat) (xs : List Value) (hown : w.ownsRow base 5 1 v n xs)
    {x : Value} {l : List Int} (hx : BS w x l) (h63 : n + l.length ≤ 1000000) (hbase : base ≤ w.heap.size) :
    ∃ v' w', (Builtin.append_ #[24, 24] 24 #[v, x]).run Try.prog w = .ok v' w' ∧ w'.ownsRow base 5 1 v' (n + l.length) (xs ++ l.map u8V) ∧ w.grownBy w' v.ownBlock ∧ (v'.ownBlock = v.ownBlock ∨ ∃ g, w.heap.size ≤ g ∧ v'.ownBlock = some g) := by
  obtain ⟨a, cap, rfl, hl, hm, hc⟩ := hx
  cases a with
  | none =>
    rcases hc with h | ⟨b, off, h, _⟩
    · subst h
      exact ⟨v, w, run_append_none base 24 24 5 i0 1 cap Try.underlying24 hi v n xs hown, by simpa using hown, ⟨rfl, rfl, rfl, Nat.le_refl _, fun _ _ _ => rfl⟩, .inl rfl⟩
    · cases h
  | some ad =>
    have hcl : ∀ j u, (l.map u8V)[j]? = some u → w.cell? (ad.add j) = some u := by
      rcases hc with h | ⟨b, off, hab, hlt, hc⟩
      · intro j u hj
        subst h
        simp at hj
      · simp only [Option.some.injEq] at hab
        subst hab
        exact fun j u hj => cells_u8 hc j u hj
    exact run_append_fresh (P := Try.prog) w base 24 24 5 i0 (.int .u8 0) 1 1 Try.underlying24 hi hz0 hz1 hz2 rfl (by decide) v n xs hown ad l.length cap (l.map u8V) (by simp) hcl (u8V_one l) (by unfold maxLen; omega) (by omega) hbase
/-- the loop's law: what lies there after i pages -/
structure FI (w w6 wr : World) (row : Option Nat) (e : Nat) (ps : List Pg) (i : Nat) (fv : Value) : Prop where
  B : Below w.heap.size w wr
  G : w6.grownBy wr row
  O : wr.ownsRow (w.heap.size + 1) 5 1 fv (LI e ps i).length ((LI e ps i).map u8V)
  F : fv.ownBlock = row ∨ ∃ g, w6.heap.size ≤ g ∧ fv.ownBlock = some g
theorem FI.next {w w6 wr wA w7 w8 : World} {row : Option Nat} {e i : Nat} {ps : List Pg} {fv v7 v8 : Value} {pg rt : Int} {dl : List Int} (h : FI w w6 wr row e ps i fv) (hS : LI e ps (i + 1) = (LI e ps i ++ [pg, rt, (dl.length : Int)]) ++ dl) (hsz : w.heap.size < w6.heap.size) (hA : wr.grownBy wA none)
    (g7 : wA.grownBy w7 fv.ownBlock) (f7 : v7.ownBlock = fv.ownBlock ∨ ∃ g, wA.heap.size ≤ g ∧ v7.ownBlock = some g) (o7 : w7.ownsRow (w.heap.size + 1) 5 1 v7 ((LI e ps i).length + 3) ((LI e ps i).map u8V ++ [.int .u8 pg, .int .u8 rt, .int .u8 dl.length]))
    (g8 : w7.grownBy w8 v7.ownBlock) (f8 : v8.ownBlock = v7.ownBlock ∨ ∃ g, w7.heap.size ≤ g ∧ v8.ownBlock = some g) (o8 : w8.ownsRow (w.heap.size + 1) 5 1 v8 ((LI e ps i).length + 3 + dl.length) ((LI e ps i).map u8V ++ [.int .u8 pg, .int .u8 rt, .int .u8 dl.length] ++ dl.map u8V)) : FI w w6 w8 row e ps (i + 1) v8 := by
  have s1 := h.G.size
  have s2 := hA.size
  have s3 := g7.size
  have c1 : ∀ j, fv.ownBlock = some j → w6.heap.size ≤ j ∨ row = some j := fun j hj => by
    rcases h.F with q | ⟨g, hg, q⟩
    · exact .inr (by rw [← q, hj])
    · rw [q] at hj; cases hj; exact .inl hg
  have c2 : ∀ j, v7.ownBlock = some j → w6.heap.size ≤ j ∨ row = some j := fun j hj => by
    rcases f7 with q | ⟨g, hg, q⟩
    · exact c1 j (by rw [← q, hj])
    · rw [q] at hj; cases hj; exact .inl (by omega)
  refine ⟨?_, ?_, ?_, ?_⟩
  · exact ((h.B.grown hA (by omega) (fun k hk => by cases hk)).grown g7 (by omega) (fun k hk => by have := (h.O.lt k hk).1; omega)).grown g8 (by omega) (fun k hk => by have := (o7.lt k hk).1; omega)
  · exact ((h.G.andThen hA (fun j hj => by cases hj)).andThen g7 c1).andThen g8 c2
  · rw [hS]
    have e1 : ((LI e ps i ++ [pg, rt, (dl.length : Int)]) ++ dl).length = (LI e ps i).length + 3 + dl.length := by simp; omega
    have e2 : ((LI e ps i ++ [pg, rt, (dl.length : Int)]) ++ dl).map u8V = (LI e ps i).map u8V ++ [.int .u8 pg, .int .u8 rt, .int .u8 dl.length] ++ dl.map u8V := by simp
    rw [e1, e2]
    exact o8
  · rcases f8 with q | ⟨g, hg, q⟩
    · cases hv : v7.ownBlock with
      | none =>
        rcases f7 with q7 | ⟨g, hg, q7⟩
        · rcases h.F with qf | ⟨g, hg, qf⟩
          · exact .inl (by rw [q, q7, qf])
          · rw [q7, qf] at hv; cases hv
        · rw [q7] at hv; cases hv
      | some j =>
        rcases c2 j hv with hj | hj
        · exact .inr ⟨j, hj, by rw [q, hv]⟩
        · exact .inl (by rw [q, hv, hj])
    · exact .inr ⟨g, by omega, q⟩
theorem LI_len {e : Nat} {ps : List Pg} (h : Right e ps) : ∀ i, i ≤ ps.length → (LI e ps i).length ≤ 8 + 19 * i
  | 0, _ => by rw [LI_zero]; simp [headR, fourR]
  | i + 1, hi => by
    have := LI_len h i (by omega)
    have h16 := (h.trims.all i (by rw [trims_length]; omega)).len
    rw [LI_succ (by omega)]
    simp only [List.length_append, List.length_cons, List.length_nil]
    omega
theorem gb {w w' : World} (hb : Below w.heap.size w w') : w.grownBy w' none := ⟨hb.os, hb.tape, hb.output, hb.size, fun k hk _ => hb.block k hk⟩
theorem FI.g7 {w w6 wr wA w7 : World} {row : Option Nat} {e i : Nat} {ps : List Pg} {fv : Value} (h : FI w w6 wr row e ps i fv) (hA : wr.grownBy wA none) (g7 : wA.grownBy w7 fv.ownBlock) : w6.grownBy w7 row := by
  have c1 : ∀ j, fv.ownBlock = some j → w6.heap.size ≤ j ∨ row = some j := fun j hj => by
    rcases h.F with q | ⟨g, hg, q⟩
    · exact .inr (by rw [← q, hj])
    · rw [q] at hj; cases hj; exact .inl hg
  exact (h.G.andThen hA (fun j hj => by cases hj)).andThen g7 c1
theorem bs_own {w : World} {B : Nat} {v : Value} {l : List Int} (h : w.ownsRow B 5 1 v l.length (l.map u8V)) : BS w v l := at_of_owned h
theorem encs_byt : ∀ {ps : List Pg}, (∀ p ∈ ps, 0 ≤ p.pg ∧ p.pg ≤ 255 ∧ 0 ≤ p.rt ∧ p.rt ≤ 255 ∧ p.da.length ≤ 255 ∧ Byt p.da) → Byt (encs ps)
  | [], _ => by intro x hx; simp [encs] at hx
  | p :: ps, h => by
    rw [encs_cons]
    obtain ⟨h0, h1, h2, h3, h4, h5⟩ := h p (List.mem_cons_self ..)
    refine Byt.append ?_ (encs_byt fun q hq => h q (List.mem_cons_of_mem _ hq))
    unfold encP
    refine Byt.append (fun x hx => ?_) h5
    simp at hx
    omega
theorem body_byt {e : Nat} {ps : List Pg} (h : Right e ps) (hby : ∀ i, i < ps.length → Byt (pAt ps i).da) : Byt (bodyR e ps) := by
  unfold bodyR headR
  have hl := h.len
  have he : e / 16 < 64 := by
    obtain ⟨i, hi, hb⟩ := h.st
    have := (h.all i hi).hi
    simp [begins] at hb
    omega
  refine Byt.append (Byt.append (fun x hx => ?_) (fourR_byt (by omega))) (encs_byt fun p hp => ?_)
  · simp at hx
    omega
  · obtain ⟨i, hi, rfl⟩ := List.getElem_of_mem hp
    have hi' : i < ps.length := by rw [← trims_length ps]; exact hi
    have e1 : (trims ps)[i] = pAt (trims ps) i := by unfold pAt; rw [List.getD_eq_getElem?_getD, List.getElem?_eq_getElem hi]; rfl
    have ok := h.trims.all i hi
    rw [e1]
    refine ⟨ok.lo, by have := ok.hi; omega, by have := ok.r1; omega, by have := ok.r5; omega, by have := ok.len; omega, ?_⟩
    rw [pAt_trims]
    exact (hby i hi').take _
def FilePost (e : Nat) (ps : List Pg) (w : World) (E : Ending) (w' : World) : Prop :=
  ∃ (v' : Value) (c : Int), E = .returned (.tuple #[v', .int .i64 c]) ∧ Below w.heap.size w w' ∧ ((c ≠ 0 ∧ v' = .slice none 0 0 ∧ ¬ (Right e ps ∧ (fileR e ps).length ≤ 512)) ∨ (c = 0 ∧ Right e ps ∧ (fileR e ps).length ≤ 512 ∧ w'.ownsRow w.heap.size 5 1 v' (fileR e ps).length ((fileR e ps).map u8V)))
attribute [local go_sem ↓] app24_eq
set_option maxRecDepth 100000 in
set_option maxHeartbeats 1000000 in
theorem file_is {w : World} {e : Nat} {v : Value} {ps : List Pg} (he : e < 4294967296) (hby : ∀ i, i < ps.length → Byt (pAt ps i).da) (h : PgS w v ps) : Calls Try.prog 65 #[.agg #[.int .u32 e, v]] w (FilePost e ps w) := by
  have h0 := h
  obtain ⟨a, cap, rfl, hl, hcap, hc⟩ := h0
  have hb1 := Go.Joins.below_alloc1 w (.cells #[.int .u32 e, .slice a ps.length cap] 88)
  have hck := check_is he (h.keep hb1)
  have HP := Lib.hid h
  have HBY := Lib.hid hby
  have HCK := Lib.hid hck
  have hh := heap_alloc_new w (.cells #[.int .u32 e, .slice a ps.length cap] 88)
  have HW1 := Lib.hid hb1
  have HH1 := Lib.hid hh
  clear hb1 hck h hby hc hl hcap hh
  have kc := fun (w : World) (C : Array Value) (n c : Nat) => Lib.run_convert_bytes_const (P := Try.prog) w 24 5 C n c Try.underlying24 Try.underlying5
  go_enter Try.func65, Try.ntmps65
  go_upto_region 2 with (go_at_call 73; refine HCK.out.mono ?_; rintro e2 w2 ⟨c, rfl, hc, hb2⟩)
  have hlt1 : w.heap.size < (w.alloc (.cells #[.int .u32 e, .slice a ps.length cap] 88)).heap.size := by simp
  have hB2 := HW1.out.trans (hb2.mono HW1.out.size)
  have hh2 := (hb2.block w.heap.size hlt1).trans HH1.out
  have d0 : w2.cell? ⟨w.heap.size, 0, none⟩ = some (.int .u32 e) := by rw [cell_of_row _ _ _ _ _ _ hh2]; rfl
  have d1 : w2.cell? ⟨w.heap.size, 1, none⟩ = some (.slice a ps.length cap) := by rw [cell_of_row _ _ _ _ _ _ hh2]; rfl
  have hlt2 : w.heap.size < w2.heap.size := Nat.lt_of_lt_of_le hlt1 hb2.size
  have HB2 := Lib.hid hB2
  have HL2 := Lib.hid hlt2
  clear hb2 hlt1 hB2 hh2 hlt2 HH1 HW1 HCK
  rcases hc with ⟨rfl, hR⟩ | ⟨hne, hNR⟩
  · have HR := Lib.hid hR
    have hl8 : IntKind.u8.wrap (ps.length : Int) = (ps.length : Int) := by have := hR.len; rw [IntKind.wrap_u8]; omega
    have hl64i : (ps.length : Int) ≤ 64 := by have := hR.len; omega
    clear hR
    have d0m : (w2.alloc (.cells #[.int .u8 82, .int .u8 72, .int .u8 49] 5 (3, 4))).cell? ⟨w.heap.size, 0, none⟩ = _ := Lib.cell?_alloc_marked _ d0
    have d1m : (w2.alloc (.cells #[.int .u8 82, .int .u8 72, .int .u8 49] 5 (3, 4))).cell? ⟨w.heap.size, 1, none⟩ = _ := Lib.cell?_alloc_marked _ d1
    have hmk := heap_alloc_new w2 (.cells #[.int .u8 82, .int .u8 72, .int .u8 49] 5 (3, 4))
    have hmk2 := (Go.Joins.below_alloc1 (w2.alloc (.cells #[.int .u8 82, .int .u8 72, .int .u8 49] 5 (3, 4))) (.cells #[.int .u8 ps.length] 5)).block w2.heap.size (by simp)
    have HO := Lib.hid (show ∀ b : Addr, some (⟨w2.heap.size, 0, none⟩ : Addr) = some b → ∀ j u, ([82, 72, 49].map u8V)[j]? = some u → ((w2.alloc (.cells #[.int .u8 82, .int .u8 72, .int .u8 49] 5 (3, 4))).alloc (.cells #[.int .u8 ps.length] 5)).cell? (b.add j) = some u from fun b hb j u hj => by
      obtain rfl := Option.some.inj hb
      rw [Addr.add_lit, Nat.zero_add, cell_of_row _ _ _ _ _ _ (hmk2.trans hmk)]
      simpa using hj)
    have HN := Lib.hid (cells_new (w2.alloc (.cells #[.int .u8 82, .int .u8 72, .int .u8 49] 5 (3, 4))) [.int .u8 ps.length] 5)
    have HW3 := Lib.hid (((Below.refl w2.heap.size w2).alloc (Nat.le_refl _) (.cells #[.int .u8 82, .int .u8 72, .int .u8 49] 5 (3, 4))).alloc (by simp) (.cells #[.int .u8 ps.length] 5))
    obtain ⟨i0, hi, hz0, hz1, hz2⟩ := info_parts info5
    have HI := Lib.hid hi
    obtain ⟨v4, w4, hap, own4, grow4⟩ := run_append_arg_grows (P := Try.prog) ((w2.alloc (.cells #[.int .u8 82, .int .u8 72, .int .u8 49] 5 (3, 4))).alloc (.cells #[.int .u8 ps.length] 5)) 24 24 5 i0 (.int .u8 0) 1 1 Try.underlying24 hi hz0 hz1 hz2 rfl (by decide) ⟨w2.heap.size, 0, none⟩ 3 3 ([82, 72, 49].map u8V) rfl (HO.out _ rfl) ⟨w2.heap.size + 1, 0, none⟩ 1 1 [.int .u8 ps.length] rfl (by have := HN.out; simpa using this) (by decide) (by decide) (by decide)
    rw [app24_eq] at hap
    clear hmk hmk2 hi HO HN
    obtain ⟨a4, c4, rfl⟩ := own_form own4
    have HO4 := Lib.hid own4
    have HG4 := Lib.hid grow4
    clear own4 grow4
    go_upto_region 5 with fail
    have hb4 : Below w2.heap.size w2 w4 := HW3.out.grown HG4.out (by simp; omega) (fun g hg => by cases hg)
    have HB4 := Lib.hid (HB2.out.trans (hb4.mono (Nat.le_of_lt HL2.out)))
    have x0 := (hb4.cell (p := ⟨w.heap.size, 0, none⟩) HL2.out).trans d0
    have hL4 : w.heap.size < w4.heap.size := Nat.lt_of_lt_of_le HL2.out hb4.size
    have hbA := Go.Joins.below_alloc1 w4 (.cells ((fourR e).map u8V).toArray 5)
    have HY0 := Lib.hid ((hb4.cell (p := ⟨w.heap.size, 0, none⟩) HL2.out).trans d0)
    have HY1 := Lib.hid ((hb4.cell (p := ⟨w.heap.size, 1, none⟩) HL2.out).trans d1)
    have ho4 : w4.ownsRow (w.heap.size + 1) 5 1 (.slice a4 4 c4) 4 (([82, 72, 49].map u8V) ++ [.int .u8 ps.length]) := owns_base HO4.out (by have := HL2.out; simp; omega)
    obtain ⟨v5, w5, hap5, own5, grow5, -⟩ := run_append_fresh (P := Try.prog) (w4.alloc (.cells ((fourR e).map u8V).toArray 5)) (w.heap.size + 1) 24 24 5 i0 (.int .u8 0) 1 1 Try.underlying24 HI.out hz0 hz1 hz2 rfl (by decide) (.slice a4 4 c4) 4 _ (owns_keep ho4 hbA) ⟨w4.heap.size, 0, none⟩ 4 4 ((fourR e).map u8V) rfl (cells_new w4 ((fourR e).map u8V) 5) (u8V_one _) (by decide) (by decide) (by simp; omega)
    have hg4 : ∀ g, (Value.slice a4 4 c4).ownBlock = some g → w.heap.size + 1 ≤ g := fun g hg => (ho4.lt g hg).1
    have hne4 : some w.heap.size ≠ (Value.slice a4 4 c4).ownBlock := fun hh => by have := hg4 _ hh.symm; omega
    have hb5 : Below (w.heap.size + 1) w4 w5 := (hbA.mono hL4).grown grow5 (by simp; omega) (fun k hk => hg4 k hk)
    have hb5w : Below w.heap.size w w5 := HB4.out.trans (hb5.mono (Nat.le_succ _))
    have y0 := (hb5.cell (p := ⟨w.heap.size, 0, none⟩) (Nat.lt_succ_self _)).trans HY0.out
    have y1 := (hb5.cell (p := ⟨w.heap.size, 1, none⟩) (Nat.lt_succ_self _)).trans HY1.out
    obtain ⟨a5, c5, rfl⟩ := own_form own5
    have HO5 := Lib.hid (show w5.ownsRow (w.heap.size + 1) 5 1 (.slice a5 8 c5) 8 ((headR e ps.length).map u8V) from own5)
    have HB5 := Lib.hid hb5w
    have HF := Lib.hid (four_is e he w4)
    have htr := trim_is (e := e) (v := .slice a ps.length cap) HR.out.len (fun i hi => (HR.out.all i hi).len) (HP.out.keep hb5w)
    have HT := Lib.hid htr
    rw [app24_eq] at hap5
    have hfd : ∀ (x y : Value) (w : World), (Instr.field 88 (.agg #[x, y]) 1).run Try.prog w = .ok y w := fun _ _ _ => by kernel_rfl
    clear hb4 hL4 hbA ho4 own5 grow5 hg4 hne4 hb5 hb5w htr d0 d1 d0m d1m hap HW3 HY0 HY1 HO4 HG4
    go_upto_region 7 with (first | (go_at_call 74; refine HF.out.mono ?_; rintro e4 w4' ⟨rfl, rfl⟩) | (go_at_call 75; refine HT.out.mono ?_; rintro e6 w6 ⟨v6, B6, hle6, rfl, hp6, hb6⟩; obtain ⟨a6, c6, rfl⟩ := hp6.slice))
    have hs5 : w.heap.size < w5.heap.size := World.block_lt_of_cell? w5 _ y0
    have HO6 := Lib.hid (owns_keep HO5.out hb6)
    have HB6 := Lib.hid (HB5.out.trans (hb6.mono (Nat.le_of_lt hs5)))
    have HFI := Lib.hid (show FI w w6 w6 (Value.slice a5 8 c5).ownBlock e ps 0 (.slice a5 8 c5) from ⟨HB6.out, ⟨rfl, rfl, rfl, Nat.le_refl _, fun _ _ _ => rfl⟩, by rw [LI_zero]; exact HO6.out, .inl rfl⟩)
    have HR5 := Lib.hid (show ∀ g, (Value.slice a5 8 c5).ownBlock = some g → g < B6 from fun g hg => Nat.lt_of_lt_of_le (HO5.out.lt g hg).2 hle6)
    have HP6 := Lib.hid hp6
    have HSZ := Lib.hid (show w.heap.size < w6.heap.size from Nat.lt_of_lt_of_le hs5 hb6.size)
    clear hb6 hle6 hp6 hs5 y0 y1 hap5 HF HT x0
    rw [trims_length] at *
    go_loopw [5, 30] (fun fv iv wr => ∃ i : Nat, i ≤ ps.length ∧ iv = .int .i64 i ∧ Hid (FI w w6 wr (Value.slice a5 8 c5).ownBlock e ps i fv)) (fun _ iv _ => ps.length - (intOf iv).toNat)
    case atStart => exact ⟨0, Nat.zero_le _, rfl, HFI⟩
    case round =>
      obtain ⟨i, hi, rfl, HFi⟩ := hrel
      by_cases hil : i < ps.length
      · have hok := HR.out.trims.all i (by rw [trims_length]; exact hil)
        obtain ⟨g, cg, d, hv, hpk⟩ := HP6.out.pick (i := i) (by rw [trims_length]; exact hil) hok.len
        rw [trims_length] at hv
        simp only [Value.slice.injEq] at hv
        obtain ⟨rfl, -, rfl⟩ := hv
        obtain ⟨x0, x1, x2, hbs⟩ := hpk wr _ HFi.out.G HR5.out
        have HPK := Lib.hid hpk
        have HSU := Lib.hid (LI_succ (e := e) hil)
        clear hpk
        obtain ⟨o0, o1, -, o3, o4, o5⟩ := hok
        generalize pAt (trims ps) i = p at *
        obtain ⟨pg, rt, dl⟩ := p
        dsimp only at *
        obtain ⟨da, dc, hd, hdl, hdm, hdc⟩ := hbs
        subst hd
        clear hdc
        have hdi : (i : Int) < (ps.length : Int) := by omega
        have u1 : IntKind.u8.wrap pg = pg := by rw [IntKind.wrap_u8]; omega
        have u2 : IntKind.u8.wrap rt = rt := by rw [IntKind.wrap_u8]; omega
        have u3 : IntKind.u8.wrap (dl.length : Int) = (dl.length : Int) := by rw [IntKind.wrap_u8]; omega
        go_upto_region 9 with fail
        have hbA := (Go.Joins.below_alloc1 wr (.cells #[.int .i64 pg, .int .i64 rt, .slice da dl.length dc] 96)).drew.alloc (by simp) (.cells #[.int .u8 pg, .int .u8 rt, .int .u8 dl.length] 5)
        have hh := heap_alloc_new wr (.cells #[.int .i64 pg, .int .i64 rt, .slice da dl.length dc] 96)
        have y0 : (wr.alloc (.cells #[.int .i64 pg, .int .i64 rt, .slice da dl.length dc] 96)).cell? ⟨wr.heap.size, 0, none⟩ = some (.int .i64 pg) := by rw [cell_of_row _ _ _ _ _ _ hh]; rfl
        have y1 : (wr.alloc (.cells #[.int .i64 pg, .int .i64 rt, .slice da dl.length dc] 96)).cell? ⟨wr.heap.size, 1, none⟩ = some (.int .i64 rt) := by rw [cell_of_row _ _ _ _ _ _ hh]; rfl
        have y2 : (wr.alloc (.cells #[.int .i64 pg, .int .i64 rt, .slice da dl.length dc] 96)).cell? ⟨wr.heap.size, 2, none⟩ = some (.slice da dl.length dc) := by rw [cell_of_row _ _ _ _ _ _ hh]; rfl
        have hn7 : wr.heap.size < (wr.alloc (.cells #[.int .i64 pg, .int .i64 rt, .slice da dl.length dc] 96)).heap.size := by simp
        have hlen := LI_len HR.out i hi
        have hl64 := HR.out.len
        have ho4 := owns_keep HFi.out.O hbA
        clear hh x0 x1 x2
        revert hbA y0 y1 y2 hn7 ho4
        generalize wr.alloc (.cells #[.int .i64 pg, .int .i64 rt, .slice da dl.length dc] 96) = W9
        intro hbA y0 y1 y2 hn7 ho4
        have hS : ∀ wx row, W9.grownBy wx row → row ≠ some wr.heap.size → (wx.cell? ⟨wr.heap.size, 0, none⟩ = some (.int .i64 pg) ∧ wx.cell? ⟨wr.heap.size, 1, none⟩ = some (.int .i64 rt) ∧ wx.cell? ⟨wr.heap.size, 2, none⟩ = some (.slice da dl.length dc)) := fun wx row hg hne => ⟨(hg.cell_far ⟨wr.heap.size, 0, none⟩ hn7 (Ne.symm hne)).trans y0, (hg.cell_far ⟨wr.heap.size, 1, none⟩ hn7 (Ne.symm hne)).trans y1, (hg.cell_far ⟨wr.heap.size, 2, none⟩ hn7 (Ne.symm hne)).trans y2⟩
        have gD := gb (Below.refl W9.heap.size W9).drew
        have gA9 := gb ((Below.refl W9.heap.size W9).drew.alloc (Nat.le_refl _) (.cells #[.int .u8 pg, .int .u8 rt, .int .u8 dl.length] 5))
        obtain ⟨v7, w7, hr7, own7, grow7, fresh7⟩ := run_append_fresh (P := Try.prog) (W9.drew.alloc (.cells #[.int .u8 pg, .int .u8 rt, .int .u8 dl.length] 5)) (w.heap.size + 1) 24 24 5 i0 (.int .u8 0) 1 1 Try.underlying24 HI.out hz0 hz1 hz2 rfl (by decide) u5 _ _ ho4 ⟨W9.drew.heap.size, 0, none⟩ 3 3 [.int .u8 pg, .int .u8 rt, .int .u8 dl.length] rfl (cells_new W9.drew [.int .u8 pg, .int .u8 rt, .int .u8 dl.length] 5) (fun u hu => by simp at hu; rcases hu with rfl | rfl | rfl <;> rfl) (by unfold maxLen; omega) (by omega) (by have := HSZ.out; have := HFi.out.G.size; have := hbA.size; omega)
        have hG7 := HFi.out.g7 (gb hbA) grow7
        obtain ⟨v8, w8, hr8, own8, grow8, fresh8⟩ := run_append_bs (w.heap.size + 1) i0 HI.out hz0 hz1 hz2 v7 _ _ own7 ((HPK.out w7 _ hG7 HR5.out).2.2.2) (by omega) (by have := HSZ.out; have := hG7.size; omega)
        have HNX := Lib.hid (HFi.out.next HSU.out HSZ.out (gb hbA) grow7 fresh7 own7 grow8 fresh8 own8)
        have hne5 : u5.ownBlock ≠ some wr.heap.size := fun hh => by have := (HFi.out.O.lt _ hh).2; omega
        have hsA : wr.heap.size < (W9.drew.alloc (.cells #[.int .u8 pg, .int .u8 rt, .int .u8 dl.length] 5)).heap.size := Nat.lt_of_lt_of_le hn7 gA9.size
        have hne7 : v7.ownBlock ≠ some wr.heap.size := fun hh => by
          rcases fresh7 with q | ⟨g, hg, q⟩
          · exact hne5 (q.symm.trans hh)
          · rw [q] at hh; cases hh; omega
        have HS1 := Lib.hid (hS _ none gD (by simp))
        have HS2 := Lib.hid (hS _ none gA9 (by simp))
        have g79 : W9.grownBy w7 u5.ownBlock := World.grownBy.trans ⟨gA9.os, gA9.tape, gA9.output, gA9.size, fun i hi _ => gA9.block i hi (by simp)⟩ grow7
        have HS3 := Lib.hid (hS w7 _ g79 hne5)
        have HS4 := Lib.hid (show w8.cell? ⟨wr.heap.size, 0, none⟩ = some (.int .i64 pg) ∧ w8.cell? ⟨wr.heap.size, 1, none⟩ = some (.int .i64 rt) ∧ w8.cell? ⟨wr.heap.size, 2, none⟩ = some (.slice da dl.length dc) from by
          have s7 := grow7.size
          exact ⟨(grow8.cell_far ⟨wr.heap.size, 0, none⟩ (by show wr.heap.size < _; omega) (Ne.symm hne7)).trans HS3.out.1, (grow8.cell_far ⟨wr.heap.size, 1, none⟩ (by show wr.heap.size < _; omega) (Ne.symm hne7)).trans HS3.out.2.1, (grow8.cell_far ⟨wr.heap.size, 2, none⟩ (by show wr.heap.size < _; omega) (Ne.symm hne7)).trans HS3.out.2.2⟩)
        have HR7 := Lib.hid hr7
        have HR8 := Lib.hid hr8
        clear hbA y0 y1 y2 hn7 ho4 hS gD gA9 hr7 own7 grow7 fresh7 hG7 hr8 own8 grow8 fresh8 hne5 hne7 hsA g79 hlen hl64
        -- REGION 9
        refine wp_region_held_drew (S := fun wx => wx.cell? ⟨wr.heap.size, 0, none⟩ = some (.int .i64 pg) ∧ wx.cell? ⟨wr.heap.size, 1, none⟩ = some (.int .i64 rt) ∧ wx.cell? ⟨wr.heap.size, 2, none⟩ = some (.slice da dl.length dc)) (by kernel_rfl) (HS1.out) (fun hHeld => ?_)
        refine wpAnyH_take (i := 0) (v := ?_) rfl (by kernel_rfl) (by kernel_rfl) (by kernel_rfl) (fun _ _ _ h => h) (Or.inl ⟨by rfl, ?_⟩) (by assumption) ?_
        rotate_left
        · intro w hSw; (try dsimp only at hSw); go_simp; (try with_reducible rfl)
        try simp only [Act.put, List.setIfInBounds_toArray, List.set_cons_zero, List.set_cons_succ]
        refine wpAnyH_take (i := 1) (v := ?_) rfl (by kernel_rfl) (by kernel_rfl) (by kernel_rfl) (fun _ _ _ h => h) (Or.inl ⟨by rfl, ?_⟩) (by assumption) ?_
        rotate_left
        · intro w hSw; (try dsimp only at hSw); go_simp; (try with_reducible rfl)
        try simp only [Act.put, List.setIfInBounds_toArray, List.set_cons_zero, List.set_cons_succ]
        refine wpAnyH_take (i := 2) (v := ?_) rfl (by kernel_rfl) (by kernel_rfl) (by kernel_rfl) (fun _ _ _ h => h) (Or.inl ⟨by rfl, ?_⟩) (by assumption) ?_
        rotate_left
        · intro w hSw; (try dsimp only at hSw); go_simp; (try with_reducible rfl)
        try simp only [Act.put, List.setIfInBounds_toArray, List.set_cons_zero, List.set_cons_succ]
        refine wpAnyH_take (i := 3) (v := ?_) rfl (by kernel_rfl) (by kernel_rfl) (by kernel_rfl) (fun _ _ _ h => h) (Or.inl ⟨by rfl, ?_⟩) (by assumption) ?_
        rotate_left
        · intro w hSw; (try dsimp only at hSw); go_simp; (try with_reducible rfl)
        try simp only [Act.put, List.setIfInBounds_toArray, List.set_cons_zero, List.set_cons_succ]
        refine wpAnyH_take (i := 4) (v := ?_) rfl (by kernel_rfl) (by kernel_rfl) (by kernel_rfl) (fun _ _ _ h => h) (Or.inl ⟨by rfl, ?_⟩) (by assumption) ?_
        rotate_left
        · intro w hSw; (try dsimp only at hSw); go_simp; (try with_reducible rfl)
        try simp only [Act.put, List.setIfInBounds_toArray, List.set_cons_zero, List.set_cons_succ]
        refine wpAnyH_take (i := 5) (v := ?_) rfl (by kernel_rfl) (by kernel_rfl) (by kernel_rfl) (fun _ _ _ h => h) (Or.inl ⟨by rfl, ?_⟩) (by assumption) ?_
        rotate_left
        · intro w hSw; (try dsimp only at hSw); go_simp; (try with_reducible rfl)
        try simp only [Act.put, List.setIfInBounds_toArray, List.set_cons_zero, List.set_cons_succ]
        refine wpAnyH_take (i := 6) (v := ?_) rfl (by kernel_rfl) (by kernel_rfl) (by kernel_rfl) (fun _ _ _ h => h) (Or.inl ⟨by rfl, ?_⟩) (by assumption) ?_
        rotate_left
        · intro w hSw; (try dsimp only at hSw); go_simp; (try with_reducible rfl)
        try simp only [Act.put, List.setIfInBounds_toArray, List.set_cons_zero, List.set_cons_succ]
        refine wpAnyH_take (i := 7) (v := ?_) rfl (by kernel_rfl) (by kernel_rfl) (by kernel_rfl) (fun _ _ _ h => h) (Or.inl ⟨by rfl, ?_⟩) (by assumption) ?_
        rotate_left
        · intro w hSw; (try dsimp only at hSw); go_simp; (try with_reducible rfl)
        try simp only [Act.put, List.setIfInBounds_toArray, List.set_cons_zero, List.set_cons_succ]
        refine wpAnyH_take (i := 8) (v := ?_) rfl (by kernel_rfl) (by kernel_rfl) (by kernel_rfl) (fun _ _ _ h => h) (Or.inl ⟨by rfl, ?_⟩) (by assumption) ?_
        rotate_left
        · intro w hSw; (try dsimp only at hSw); go_simp; (try with_reducible rfl)
        try simp only [Act.put, List.setIfInBounds_toArray, List.set_cons_zero, List.set_cons_succ]
        refine wpAnyH_take (i := 9) (v := ?_) rfl (by kernel_rfl) (by kernel_rfl) (by kernel_rfl) (fun _ _ _ h => h) (Or.inl ⟨by rfl, ?_⟩) (by assumption) ?_
        rotate_left
        · intro w hSw; (try dsimp only at hSw); go_simp; (try with_reducible rfl)
        try simp only [Act.put, List.setIfInBounds_toArray, List.set_cons_zero, List.set_cons_succ]
        refine wpAnyH_take (i := 10) (v := ?_) rfl (by kernel_rfl) (by kernel_rfl) (by kernel_rfl) (fun _ _ _ h => h) (Or.inl ⟨by rfl, ?_⟩) (by assumption) ?_
        rotate_left
        · intro w hSw; (try dsimp only at hSw); go_simp; (try with_reducible rfl)
        try simp only [Act.put, List.setIfInBounds_toArray, List.set_cons_zero, List.set_cons_succ]
        refine wpAnyH_take (i := 13) (v := ?_) rfl (by kernel_rfl) (by kernel_rfl) (by kernel_rfl) (fun _ _ _ h => h) (Or.inl ⟨by rfl, ?_⟩) (by assumption) ?_
        rotate_left
        · intro w hSw; (try dsimp only at hSw); go_simp; (try with_reducible rfl)
        try simp only [Act.put, List.setIfInBounds_toArray, List.set_cons_zero, List.set_cons_succ]
        refine wpAnyH_take (i := 14) (v := ?_) rfl (by kernel_rfl) (by kernel_rfl) (by kernel_rfl) (fun _ _ _ h => h) (Or.inl ⟨by rfl, ?_⟩) (by assumption) ?_
        rotate_left
        · intro w hSw; (try dsimp only at hSw); go_simp; (try with_reducible rfl)
        try simp only [Act.put, List.setIfInBounds_toArray, List.set_cons_zero, List.set_cons_succ]
        refine wpAnyH_ready (rs := [11]) (by kernel_rfl) (by simp) ?_
        refine AllReadyH.cons rfl (fun K hK => ?_) AllReadyH.nil
        go_simp
        refine hK.out _ _ (HS2.out) (fun hHeld => ?_)
        try simp only [Act.put, List.setIfInBounds_toArray, List.set_cons_zero, List.set_cons_succ]
        clear hK
        refine wpAnyH_ready (rs := [12]) (by kernel_rfl) (by simp) ?_
        refine AllReadyH.cons rfl (fun K hK => ?_) AllReadyH.nil
        refine step_append_run rfl (.tmp 34) (.tmp 45) 24 rfl HR7.out ?_
        refine hK.out _ _ (HS3.out) (fun hHeld => ?_)
        try simp only [Act.put, List.setIfInBounds_toArray, List.set_cons_zero, List.set_cons_succ]
        clear hK
        refine wpAnyH_ready (rs := [15]) (by kernel_rfl) (by simp) ?_
        refine AllReadyH.cons rfl (fun K hK => ?_) AllReadyH.nil
        refine step_append_run rfl (.tmp 46) (.tmp 48) 24 rfl HR8.out ?_
        refine hK.out _ _ (HS4.out) (fun hHeld => ?_)
        try simp only [Act.put, List.setIfInBounds_toArray, List.set_cons_zero, List.set_cons_succ]
        clear hK
        refine wpAnyH_take (i := 16) (v := ?_) rfl (by kernel_rfl) (by kernel_rfl) (by kernel_rfl) (fun _ _ _ h => h) (Or.inl ⟨by rfl, ?_⟩) (by assumption) ?_
        rotate_left
        · intro w hSw; (try dsimp only at hSw); go_simp; (try with_reducible rfl)
        try simp only [Act.put, List.setIfInBounds_toArray, List.set_cons_zero, List.set_cons_succ]
        refine wpAnyH_done (by kernel_rfl) ?_ _
        -- END REGION 9
        go_wp2_with fail
        go_roundw
        case rel => exact ⟨i + 1, by omega, by go_num, HNX⟩
        case measure => simp [intOf]; omega
      · obtain rfl : i = ps.length := by omega
        have hfi := HFi.out.O
        rw [LI_all] at hfi
        obtain ⟨fa, fc, rfl⟩ := own_form hfi
        have hbs : BS wr (.slice fa (bodyR e ps).length fc) (bodyR e ps) := bs_own hfi
        have hlen := LI_len HR.out ps.length (Nat.le_refl _)
        rw [LI_all] at hlen
        have hl64 := HR.out.len
        have HSM := Lib.hid (sum_is hbs (body_byt HR.out HBY.out))
        have HF := Lib.hid (four_is _ (sumR_lt (bodyR e ps)) wr)
        have hbA := Go.Joins.below_alloc1 wr (.cells ((fourR (sumR (bodyR e ps))).map u8V).toArray 5)
        have hsr := HFi.out.G.size
        obtain ⟨v7, w7, hr7, own7, grow7, -⟩ := run_append_fresh (P := Try.prog) (wr.alloc (.cells ((fourR (sumR (bodyR e ps))).map u8V).toArray 5)) (w.heap.size + 1) 24 24 5 i0 (.int .u8 0) 1 1 Try.underlying24 HI.out hz0 hz1 hz2 rfl (by decide) _ _ _ (owns_keep hfi hbA) ⟨wr.heap.size, 0, none⟩ 4 4 ((fourR (sumR (bodyR e ps))).map u8V) rfl (cells_new wr ((fourR (sumR (bodyR e ps))).map u8V) 5) (u8V_one _) (by unfold maxLen; omega) (by omega) (by have := HSZ.out; simp; omega)
        rw [app24_eq] at hr7
        rw [← List.map_append] at own7
        have own7 : w7.ownsRow (w.heap.size + 1) 5 1 v7 (fileR e ps).length ((fileR e ps).map u8V) := by
          have e1 : (fileR e ps).length = (bodyR e ps).length + 4 := by unfold fileR; simp [fourR]
          rw [e1]
          exact own7
        obtain ⟨ga, gc, rfl⟩ := own_form own7
        have hB7 : Below w.heap.size w w7 := (HFi.out.B.trans (hbA.mono (Nat.le_of_lt (Nat.lt_of_lt_of_le HSZ.out hsr)))).grown grow7 (Nat.le_trans (Nat.le_of_lt (Nat.lt_of_lt_of_le HSZ.out hsr)) hbA.size) (fun k hk => by have := (hfi.lt k hk).1; omega)
        have hbs7 := bs_own own7
        have hs7 : w.heap.size < w7.heap.size := by have := HSZ.out; have := grow7.size; simp at this; omega
        clear hbs hbA hsr own7 grow7 hfi HFi
        by_cases h512 : (fileR e ps).length ≤ 512
        · have hn : ¬ ((512 : Int) < ((fileR e ps).length : Int)) := by omega
          have HCL := Lib.hid (clone_is (by omega) hbs7)
          have HB7 := Lib.hid hB7
          clear hbs7 hB7
          go_wp2_with (first | (go_at_call 67; refine HSM.out.mono ?_; rintro e4 w4' ⟨rfl, rfl⟩) | (go_at_call 74; refine HF.out.mono ?_; rintro e4 w4' ⟨rfl, rfl⟩) | (go_at_call 76; refine HCL.out.mono ?_; rintro e9 w9 ⟨v9, rfl, ho9, hb9⟩))
          exact bodyPost_ret (v := .tuple #[v9, .int .i64 0]) (by simp [results, Try.results65, go_sem]) rfl ⟨_, 0, rfl, HB7.out.trans (hb9.mono (Nat.le_of_lt hs7)), .inr ⟨rfl, HR.out, h512, owns_base ho9 (Nat.le_of_lt hs7)⟩⟩
        · have hn : (512 : Int) < ((fileR e ps).length : Int) := by omega
          go_wp2_with (first | (go_at_call 67; refine HSM.out.mono ?_; rintro e4 w4' ⟨rfl, rfl⟩) | (go_at_call 74; refine HF.out.mono ?_; rintro e4 w4' ⟨rfl, rfl⟩))
          exact bodyPost_ret (v := .tuple #[.slice none 0 0, .int .i64 2]) (by simp [results, Try.results65, go_sem]) rfl ⟨_, 2, rfl, hB7, .inl ⟨by decide, rfl, fun h => h512 h.2⟩⟩
  · have HNR := Lib.hid hNR
    clear hNR
    go_wp2_with fail
    have hNR := HNR.out
    exact bodyPost_ret (v := .tuple #[.slice none 0 0, .int .i64 c]) (by simp [results, Try.results65, go_sem]) rfl ⟨_, c, rfl, HB2.out, .inl ⟨hne, rfl, fun h => hNR h.1⟩⟩
end Go.Proofs.Ytgdihccmkleimaa.BootLaw
