/- Small facts for all walks of this seat, and arguments opened to cells. No program here. -/
import Derived.WalkKit
import Derived.ProofKit
import Derived.Lib.Hide
import Derived.Deep.Slices
import Derived.Deep.Fields
import Derived.ChangeSame
import Derived.OpenShut
import Derived.Lib.SmallJoins
namespace Go.Proofs.YtopadiofanaaiaaDoor
open Go.ChangeShapes Go.WideShapes Go.Deep Go.RowKit

theorem ret_int {k : IntKind} {a b : Int} (h : a = b) : Ending.returned (.int k a) = .returned (.int k b) := by rw [h]
theorem ret_bool {a b : Bool} (h : a = b) : Ending.returned (.bool a) = .returned (.bool b) := by rw [h]
theorem ret_tup {a b c d : Value} (h : a = c) (h' : b = d) : Ending.returned (.tuple #[a, b]) = .returned (.tuple #[c, d]) := by rw [h, h']

section
variable {H : Type} {enc : TypeId × Value → H} {P : Program} {w : World} {base : Nat} {spare : Nat → Bool} {held : Bool}
theorem open_slice_fields {t e : TypeId} {fs : Array Field} {fuel : Nat} {cs : List Value} {x : DataW H × List MemPlace} (ht : P.underlying t = some (.slice e)) (he : P.underlying e = some (.struct fs))
    (hone : oneCellFields P fs = true) (hC : P.cellsOf e = fs.size) (h : DataW.trod enc P w base spare held fuel t cs = some x) :
    (cs = [.slice none 0 0] ∧ x = (.nil, [])) ∨
    ∃ (a : Addr) (len cap m : Nat) (D : Nat → DataW H) (Pl : Nat → List MemPlace), cs = [.slice (some a) len cap] ∧ base ≤ a.block ∧ len ≤ cap ∧ cap ≤ maxLen ∧ m = (if spare a.block then cap else len) ∧
      x = (.slice ((List.range len).map D) ((List.range (m - len)).map fun j => D (len + j)), MemPlace.row a (m * fs.size) ++ (List.range m).flatMap Pl) ∧
      ∀ i, i < m → ∃ (ys : List (DataW H × List MemPlace)) (n : Nat), D i = .agg (ys.map (·.1)) ∧ Pl i = ys.flatMap (·.2) ∧ ys.length = fs.size ∧
        ∀ (j : Nat) (f : Field), fs[j]? = some f → ∃ (v : Value) (y : DataW H × List MemPlace), w.cell? (a.add (i * fs.size + j)) = some v ∧ ys[j]? = some y ∧ DataW.trod enc P w base spare held n f.type [v] = some y := by
  rcases open_slice ht h with h0 | ⟨a, len, cap, m, n, D, Pl, hcs, hb, hl, hm, hmm, hx, hi⟩
  · exact .inl h0
  · refine .inr ⟨a, len, cap, m, D, Pl, hcs, hb, hl, hm, hmm, by rw [hC] at hx; exact hx, fun i him => ?_⟩
    obtain ⟨cs', hc, ht'⟩ := hi i him
    rw [hC] at hc
    obtain ⟨ys, n', hn', hy, hlen, hyl, hf⟩ := DataW.trod_struct he ht'
    obtain ⟨_, hcl, hat⟩ := World.cells?_some hc
    simp only [Prod.mk.injEq] at hy
    refine ⟨ys, n', hy.1, hy.2, hyl, fun j f hj => ?_⟩
    obtain ⟨ho, hk⟩ := hone_of hone j f hj
    have hjl : j < fs.size := (Array.getElem?_eq_some_iff.1 hj).1
    have hcell := hat j hjl
    have hv : cs'[j]? = some (cs'[j]'(by omega)) := List.getElem?_eq_getElem (by omega)
    have h1 := hf j f hj
    rw [ho, hk] at h1
    have hone' : (cs'.drop j).take 1 = [cs'[j]'(by omega)] := by
      rw [List.drop_eq_getElem_cons (by omega)]
      rfl
    rw [hone'] at h1
    have hys : ys[j]? = some (ys[j]'(by omega)) := List.getElem?_eq_getElem (by omega)
    refine ⟨_, _, ?_, hys, h1.trans hys⟩
    rw [← Go.Deep.add_add, hcell, hv]

/-- int or bool, by a plain value -/
def Plain (P : Program) (t : TypeId) (v : Value) : Prop :=
  (P.underlying t = some (.int .i64) ∧ ∃ n : Int, v = .int .i64 n ∧ -9223372036854775808 ≤ n ∧ n ≤ 9223372036854775807) ∨ (P.underlying t = some .bool ∧ ∃ b : Bool, v = .bool b)

/-- A SLICE OF STRUCTS OF PLAIN FIELDS, of whatever type: its value; its cells by row and field. -/
def RowsIn (P : Program) (fs : Array Field) (w : World) (v : Value) (len : Nat) (F : Nat → Nat → Value) : Prop :=
  ∃ (a : Option Addr) (cap : Nat), v = .slice a len cap ∧ len ≤ cap ∧ cap ≤ maxLen ∧ (len = 0 ∨ ∃ b off, a = some ⟨b, off, none⟩ ∧ b < w.heap.size ∧
    ∀ i, i < len → ∀ (j : Nat) (f : Field), fs[j]? = some f → w.cell? ⟨b, off + i * fs.size + j, none⟩ = some (F i j) ∧ Plain P f.type (F i j))

theorem open_rows {r : Reach} {b0 : Nat} {t e : TypeId} {fs : Array Field} {v : Value} {d : DataW H} {p : List MemPlace} (ht : P.underlying t = some (.slice e)) (he : P.underlying e = some (.struct fs))
    (hone : oneCellFields P fs = true) (hC : P.cellsOf e = fs.size) (hpl : ∀ (j : Nat) (f : Field), fs[j]? = some f → P.underlying f.type = some (.int .i64) ∨ P.underlying f.type = some .bool) (hpos : 0 < fs.size)
    (hv : Value.okWide P w r b0 t v) (h : DataW.Trod enc P w base (fun _ => true) held t v d p) : ∃ len F, RowsIn P fs w v len F := by
  obtain ⟨a0, len0, cap0, rfl⟩ := okWide_slice ht hv
  obtain ⟨fuel, hf⟩ := h
  rcases open_slice_fields ht he hone hC hf with ⟨hcs, _⟩ | ⟨a, len, cap, m, D, Pl, hcs, hb, hl, hm, hmm, hx, hi⟩
  · simp [Value.cells] at hcs
    obtain ⟨rfl, rfl, rfl⟩ := hcs
    exact ⟨0, fun _ _ => undef, none, 0, rfl, Nat.le_refl _, Nat.zero_le _, .inl rfl⟩
  · simp [Value.cells] at hcs
    obtain ⟨rfl, rfl, rfl⟩ := hcs
    have hmc : m = cap0 := by simpa using hmm
    by_cases h0 : len0 = 0
    · exact ⟨len0, fun _ _ => undef, some a, cap0, rfl, hl, hm, .inl h0⟩
    · obtain ⟨F, hF⟩ := choose_lt (α := Nat → Value) (n := len0) (p := fun i g => ∀ (j : Nat) (f : Field), fs[j]? = some f → w.cell? (a.add (i * fs.size + j)) = some (g j) ∧ Plain P f.type (g j)) (fun i hil => by
        obtain ⟨ys, n, hD, hPl, hyl, hfld⟩ := hi i (by omega)
        obtain ⟨g, hg⟩ := choose_lt (α := Value) (n := fs.size) (p := fun j x => ∀ f : Field, fs[j]? = some f → w.cell? (a.add (i * fs.size + j)) = some x ∧ Plain P f.type x) (fun j hj => by
          obtain ⟨x, y, hc, hy, htr⟩ := hfld j (fs[j]) (Array.getElem?_eq_getElem hj)
          refine ⟨x, fun f hf' => ?_⟩
          have hff : fs[j] = f := by rw [Array.getElem?_eq_getElem hj] at hf'; exact Option.some.inj hf'
          refine ⟨hc, ?_⟩
          rw [hff] at htr
          rcases hpl j f hf' with hk | hk
          · obtain ⟨q, hq, _, hw⟩ := DataW.trod_int hk htr
            exact .inl ⟨hk, q, by simpa using hq, bounds_i64 hw⟩
          · obtain ⟨q, hq, _⟩ := DataW.trod_bool hk htr
            exact .inr ⟨hk, q, by simpa using hq⟩)
        exact ⟨g, fun j f hf' => hg j (Array.getElem?_eq_some_iff.1 hf').1 f hf'⟩)
      obtain ⟨b, off, spot⟩ := a
      have hc0 := (hF 0 (by omega) 0 (fs[0]) (Array.getElem?_eq_getElem hpos)).1
      have hspot : spot = none := by simpa [Addr.add] using World.cell?_spot hc0
      subst hspot
      refine ⟨len0, F, _, cap0, rfl, hl, hm, .inr ⟨b, off, rfl, ?_, fun i hil j f hf' => ?_⟩⟩
      · have := World.block_lt_of_cell? w _ hc0
        rw [Addr.add_lit] at this
        exact this
      · have := hF i hil j f hf'
        rw [Addr.add_lit] at this
        rw [Nat.add_assoc]
        exact this
end

section
variable {P : Program} (w : World)
/-- 'out = append(out, ..)' of a slice of the call's own: besides what the kit's law says, where the slice lies then: where it lay, or in new memory. -/
theorem run_append_fresh (base : Nat) (t ty e : TypeId) (i : TypeInfo) (z : Value) (size bytes : Nat) (ht : P.underlying t = some (.slice e)) (hi : P.info? e = some i) (hz : i.zero = some z)
    (hsize : i.size = size) (hby : i.bytes = bytes) (hzs : z.cells.size = size) (hsz : 0 < size)
    (v : Value) (n : Nat) (xs : List Value) (hown : w.ownsRow base e size v n xs)
    (a : Addr) (m c : Nat) (news : List Value) (hl : news.length = m * size) (hnews : ∀ j u, news[j]? = some u → w.cell? (a.add j) = some u) (h1 : ∀ u ∈ news, u.oneCell' = true)
    (h63 : n + m ≤ maxLen) (hbytes : (n + m) * bytes ≤ 140737488355328) (hbase : base ≤ w.heap.size) :
    ∃ v' w', (Builtin.append_ #[t, t] ty #[v, .slice (some a) m c]).run P w = .ok v' w' ∧ w'.ownsRow base e size v' (n + m) (xs ++ news) ∧ w.grownBy w' v.ownBlock ∧
      (v'.ownBlock = v.ownBlock ∨ ∃ g, w.heap.size ≤ g ∧ v'.ownBlock = some g) := by
  obtain ⟨v', w', hr, h2, h3, h4⟩ := run_append_own (P := P) w base t ty e i z size bytes ht hi hz hsize hby hzs hsz v n xs hown a m c news hl hnews h1 h63 hbytes hbase
  refine ⟨v', w', hr, h2, h3, ?_⟩
  subst hsize
  subst hby
  have h63' : n + m ≤ 9223372036854775807 := by simp only [maxLen] at h63; omega
  rcases hown.2 with ⟨rfl, rfl⟩ | ⟨g, cap, cur, rfl, hbg, hg, hnc, hcm, hcs, htake⟩
  · by_cases hm : m = 0
    · have := h4.2 ⟨rfl, hm⟩
      subst this
      exact .inl rfl
    · have hr2 := run_append_nil (P := P) w t ty e i z ht hi hz a m c news hl hnews (by omega) (by omega) (by simp only [Nat.zero_add] at hbytes; omega)
      rw [hr] at hr2
      injection hr2 with e1 _
      subst e1
      exact .inr ⟨w.heap.size, Nat.le_refl _, rfl⟩
  · by_cases hroom : n + m ≤ cap
    · have hfit : n * i.size + news.length ≤ cur.size := by rw [hl, hcs, ← Nat.add_mul]; exact Nat.mul_le_mul_right _ hroom
      have hr2 := run_append_room (P := P) w t ty e i ht hi g n cap cur hg a m c news hl hnews h1 hroom hfit
      rw [hr] at hr2
      injection hr2 with e1 _
      subst e1
      exact .inl rfl
    · have holds : ∀ j u, xs[j]? = some u → w.cell? ((⟨g, 0, none⟩ : Addr).add j) = some u := hown.cells (g := g) rfl
      have hr2 := run_append_grow (P := P) w t ty e i z ht hi hz ⟨g, 0, none⟩ n cap xs hown.1 holds a m c news hl hnews (by omega) (by omega) (growslice_fits (by omega) hbytes)
      rw [hr] at hr2
      injection hr2 with e1 _
      subst e1
      exact .inr ⟨w.heap.size, Nat.le_refl _, rfl⟩

theorem wpList_append_fresh {ops : Array Oper} {rest : List Oper} {o : Oper} {a : Act} {Q : Exit → Act → World → Prop} (hgd : o.guard = none) (s x : Operand) (t : TypeId)
    (ho : o.op = .call { callee := .builtin .append, args := #[s, x], argTypes := #[t, t] })
    (base : Nat) (e : TypeId) (i : TypeInfo) (z : Value) (size bytes : Nat) (ht : P.underlying t = some (.slice e)) (hi : P.info? e = some i) (hz : i.zero = some z)
    (hsize : i.size = size) (hby : i.bytes = bytes) (hzs : z.cells.size = size) (hsz : 0 < size)
    (v : Value) (n : Nat) (xs : List Value) (hs : a.eval s = v) (hown : w.ownsRow base e size v n xs)
    (ad : Addr) (m c : Nat) (news : List Value) (hx : a.eval x = .slice (some ad) m c) (hl : news.length = m * size) (hnews : ∀ j u, news[j]? = some u → w.cell? (ad.add j) = some u) (h1 : ∀ u ∈ news, u.oneCell' = true)
    (h63 : n + m ≤ maxLen) (hbytes : (n + m) * bytes ≤ 140737488355328) (hbase : base ≤ w.heap.size)
    (h : ∀ v' w', w'.ownsRow base e size v' (n + m) (xs ++ news) → w.grownBy w' v.ownBlock → (v'.ownBlock = v.ownBlock ∨ ∃ g, w.heap.size ≤ g ∧ v'.ownBlock = some g) → wpList P ops Q rest (a.put o.dst v') w') : wpList P ops Q (o :: rest) a w := by
  refine wpList_plain hgd fun K hK => ?_
  obtain ⟨v', w', hr, h2, h3, h4⟩ := run_append_fresh (P := P) w base t o.type e i z size bytes ht hi hz hsize hby hzs hsz v n xs hown ad m c news hl hnews h1 h63 hbytes hbase
  unfold Oper.wp execOp
  simp only [ho, resolve, invoke, builtin, Sem.run_bind, Sem.run_pure, Result.andThen_ok, List.map_toArray, List.map_cons, List.map_nil, hs, hx, hr]
  exact hK _ _ (h v' w' h2 h3 h4)
end

/-- the cells of a new block lie where the law on append looks for them -/
theorem cells_new (w : World) (l : List Value) (T : TypeId) : ∀ j u, l[j]? = some u → (w.alloc (.cells l.toArray T)).cell? ((⟨w.heap.size, 0, none⟩ : Addr).add j) = some u := by
  intro j u h
  have hadd : (⟨w.heap.size, 0, none⟩ : Addr).add j = ⟨w.heap.size, j, none⟩ := by unfold Addr.add; split <;> simp_all
  rw [hadd, cell_of_row _ _ _ _ _ _ (heap_alloc_new w _)]
  simpa using h
theorem cells3_new (w : World) (a b c : Value) (T : TypeId) : ∀ j u, [a, b, c][j]? = some u → (w.alloc (.cells #[a, b, c] T)).cell? ((⟨w.heap.size, 0, none⟩ : Addr).add j) = some u := cells_new w [a, b, c] T
theorem cells1_new (w : World) (a : Value) (T : TypeId) : ∀ j u, [a][j]? = some u → (w.alloc (.cells #[a] T)).cell? ((⟨w.heap.size, 0, none⟩ : Addr).add j) = some u := cells_new w [a] T
theorem one3 {k k' k'' : IntKind} {a b c : Int} : ∀ u ∈ [Value.int k a, .int k' b, .int k'' c], u.oneCell' = true := by intro u hu; simp at hu; rcases hu with rfl | rfl | rfl <;> rfl
theorem one1 {k : IntKind} {a : Int} : ∀ u ∈ [Value.int k a], u.oneCell' = true := by intro u hu; simp at hu; subst hu; rfl

/-- block b of the world begins with these cells -/
def Has (w : World) (b : Nat) (cs : List Value) : Prop := b < w.heap.size ∧ ∀ i v, cs[i]? = some v → w.cell? ⟨b, i, none⟩ = some v
theorem Has.keep {w w' : World} {b : Nat} {cs : List Value} (h : Has w b cs) (hb : Below w.heap.size w w') : Has w' b cs :=
  ⟨Nat.lt_of_lt_of_le h.1 hb.size, fun i v hv => (hb.cell (p := ⟨b, i, none⟩) h.1).trans (h.2 i v hv)⟩
theorem Has.keepB {w w' : World} {b B : Nat} {cs : List Value} (h : Has w b cs) (hb : Below B w w') (hB : b < B) : Has w' b cs :=
  ⟨Nat.lt_of_lt_of_le h.1 hb.size, fun i v hv => (hb.cell (p := ⟨b, i, none⟩) hB).trans (h.2 i v hv)⟩
theorem Has.alloc {w : World} {b : Nat} {cs : List Value} (h : Has w b cs) (o : Obj) : Has (w.alloc o) b cs := h.keep ((Below.refl _ _).alloc (Nat.le_refl _) o)
theorem has_new (w : World) (l : List Value) (T : TypeId) : Has (w.alloc (.cells l.toArray T)) w.heap.size l :=
  ⟨by simp, fun i v hv => by rw [cell_of_row _ _ _ _ _ _ (heap_alloc_new w _)]; simpa using hv⟩
theorem Has.c0 {w : World} {b : Nat} {x : Value} {l : List Value} (h : Has w b (x :: l)) : w.cell? ⟨b, 0, none⟩ = some x := h.2 0 x rfl
theorem Has.c1 {w : World} {b : Nat} {x y : Value} {l : List Value} (h : Has w b (x :: y :: l)) : w.cell? ⟨b, 1, none⟩ = some y := h.2 1 y rfl
theorem Has.a0 {w : World} {b : Nat} {x : Value} {l : List Value} (h : Has w b (x :: l)) (o : Obj) : (w.alloc o).cell? ⟨b, 0, none⟩ = some x := (h.alloc o).c0
theorem Has.a1 {w : World} {b : Nat} {x y : Value} {l : List Value} (h : Has w b (x :: y :: l)) (o : Obj) : (w.alloc o).cell? ⟨b, 1, none⟩ = some y := (h.alloc o).c1

/-- A SLICE OF ONE-CELL ELEMENTS that reads as the list: cell i holds f of element i. -/
def At {α : Type} (f : α → Value) (d : α) (w : World) (v : Value) (xs : List α) : Prop :=
  ∃ (a : Option Addr) (cap : Nat), v = .slice a xs.length cap ∧ xs.length ≤ cap ∧ cap ≤ maxLen ∧
    (xs = [] ∨ ∃ b off, a = some ⟨b, off, none⟩ ∧ b < w.heap.size ∧ ∀ i, i < xs.length → w.cell? ⟨b, off + i, none⟩ = some (f (xs.getD i d)))

theorem At.keep {α : Type} {f : α → Value} {d : α} {w w' : World} {v : Value} {xs : List α} (h : At f d w v xs) (hb : Below w.heap.size w w') : At f d w' v xs := by
  obtain ⟨a, cap, hv, hl, hm, h⟩ := h
  refine ⟨a, cap, hv, hl, hm, ?_⟩
  rcases h with h | ⟨b, off, ha, hlt, hc⟩
  · exact .inl h
  · exact .inr ⟨b, off, ha, Nat.lt_of_lt_of_le hlt hb.size, fun i hi => (hb.cell (p := ⟨b, off + i, none⟩) hlt).trans (hc i hi)⟩

theorem at_of_owned {α : Type} {f : α → Value} {d : α} {w : World} {base : Nat} {e : TypeId} {v : Value} {xs : List α} (h : w.ownsRow base e 1 v xs.length (xs.map f)) : At f d w v xs := by
  rcases h.2 with ⟨rfl, hn⟩ | ⟨g, cap, cur, rfl, hb, hg, hnc, hcm, hcs, htake⟩
  · have : xs = [] := List.eq_nil_of_length_eq_zero hn
    subst this
    exact ⟨none, 0, rfl, Nat.le_refl _, Nat.zero_le _, .inl rfl⟩
  · refine ⟨some ⟨g, 0, none⟩, cap, rfl, hnc, hcm, .inr ⟨g, 0, rfl, (Array.getElem?_eq_some_iff.1 hg).1, fun i hi => ?_⟩⟩
    have hc := h.cells (g := g) rfl i (f (xs.getD i d)) (by simp [List.getD, hi])
    rw [Addr.add_lit] at hc
    simpa using hc

theorem at_new {α : Type} {f : α → Value} {d : α} (w : World) (xs : List α) (T : TypeId) (hx : xs.length ≤ maxLen) : At f d (w.alloc (.cells (xs.map f).toArray T)) (.slice (some ⟨w.heap.size, 0, none⟩) xs.length xs.length) xs :=
  ⟨_, _, rfl, Nat.le_refl _, hx, .inr ⟨w.heap.size, 0, rfl, by simp, fun i hi => by
    rw [cell_of_row _ _ _ _ _ _ (heap_alloc_new w _)]
    simp [List.getD, hi]⟩⟩

section
variable {H : Type} {enc : TypeId × Value → H} {P : Program} {w : World} {base : Nat} {held : Bool}
/-- an argument that is a slice of one-cell elements, each of which reads by 'read' -/
theorem open_at {α : Type} [Inhabited α] {f : α → Value} {d : α} {q : α → Prop} {r : Reach} {b0 : Nat} {t e : TypeId} {v : Value} {dd : DataW H} {p : List MemPlace} (ht : P.underlying t = some (.slice e)) (hc : P.cellsOf e = 1)
    (read : ∀ (n : Nat) (x : Value) (y : DataW H × List MemPlace), DataW.trod enc P w base (fun _ => true) held n e [x] = some y → ∃ a : α, x = f a ∧ q a)
    (hv : Value.okWide P w r b0 t v) (h : DataW.Trod enc P w base (fun _ => true) held t v dd p) : ∃ xs : List α, At f d w v xs ∧ ∀ x ∈ xs, q x := by
  obtain ⟨a0, len0, cap0, rfl⟩ := okWide_slice ht hv
  obtain ⟨fuel, hf⟩ := h
  rcases open_slice1 ht hc hf with ⟨hcs, _⟩ | ⟨a, len, cap, m, n, V, D, Pl, hcs, hb, hl, hm, hmm, hx, hi⟩
  · simp [Value.cells] at hcs
    obtain ⟨rfl, rfl, rfl⟩ := hcs
    exact ⟨[], ⟨none, 0, rfl, Nat.le_refl _, Nat.zero_le _, .inl rfl⟩, by simp⟩
  · simp [Value.cells] at hcs
    obtain ⟨rfl, rfl, rfl⟩ := hcs
    have hmc : m = cap0 := by simpa using hmm
    obtain ⟨g, hg⟩ := choose_lt (α := α) (n := len0) (p := fun i x => V i = f x ∧ q x) (fun i hil => read n (V i) _ (hi i (by omega)).2)
    refine ⟨(List.range len0).map g, ⟨some a, cap0, by simp, by simpa using hl, hm, ?_⟩, ?_⟩
    · by_cases h0 : len0 = 0
      · subst h0; exact .inl rfl
      · obtain ⟨b, off, spot⟩ := a
        have hc0 := (hi 0 (by omega)).1
        have hspot : spot = none := by simpa [Addr.add] using World.cell?_spot hc0
        subst hspot
        refine .inr ⟨b, off, rfl, ?_, fun i hil => ?_⟩
        · have := World.block_lt_of_cell? w _ hc0
          rw [Addr.add_lit] at this
          exact this
        · have hil' : i < len0 := by simpa using hil
          have := (hi i (by omega)).1
          rw [Addr.add_lit, (hg i hil').1] at this
          simpa [List.getD, hil'] using this
    · intro x hx
      obtain ⟨i, hir, rfl⟩ := List.mem_map.1 hx
      exact (hg i (by simpa using hir)).2
theorem open_at_int {r : Reach} {b0 : Nat} {t e : TypeId} {k : IntKind} {v : Value} {dd : DataW H} {p : List MemPlace} (ht : P.underlying t = some (.slice e)) (he : P.underlying e = some (.int k)) (hc : P.cellsOf e = 1)
    (hv : Value.okWide P w r b0 t v) (h : DataW.Trod enc P w base (fun _ => true) held t v dd p) : ∃ xs : List Int, At (Value.int k) 0 w v xs ∧ ∀ x ∈ xs, (Lit.int k x).wf = true :=
  open_at (q := fun x => (Lit.int k x).wf = true) ht hc (fun n x y hxy => by
    obtain ⟨z, hz, _, hw⟩ := DataW.trod_int he hxy
    exact ⟨z, by simpa using hz, hw⟩) hv h
theorem open_at_bool {r : Reach} {b0 : Nat} {t e : TypeId} {v : Value} {dd : DataW H} {p : List MemPlace} (ht : P.underlying t = some (.slice e)) (he : P.underlying e = some .bool) (hc : P.cellsOf e = 1)
    (hv : Value.okWide P w r b0 t v) (h : DataW.Trod enc P w base (fun _ => true) held t v dd p) : ∃ xs : List Bool, At Value.bool false w v xs := by
  obtain ⟨xs, h1, _⟩ := open_at (f := Value.bool) (d := false) (q := fun _ => True) ht hc (fun n x y hxy => by
    obtain ⟨z, hz, _⟩ := DataW.trod_bool he hxy
    exact ⟨z, by simpa using hz, trivial⟩) hv h
  exact ⟨xs, h1⟩
end

/-- two slices of the call's own lie in two blocks -/
def Apart (v v' : Value) : Prop := ∀ g, v.ownBlock = some g → v'.ownBlock ≠ some g
theorem Apart.symm {v v' : Value} (h : Apart v v') : Apart v' v := fun g h1 h2 => h g h2 h1
theorem apart_nil (v : Value) : Apart (.slice none 0 0) v := fun g h => by cases h
/-- what is owned beside a slice that is appended to stays owned, and apart from it -/
theorem kept_apart {w w1 : World} {base e' size' : Nat} {v v1 v' : Value} {n' : Nat} {xs' : List Value} (hown : w.ownsRow base e' size' v' n' xs') (hgrow : w.grownBy w1 v.ownBlock)
    (hfresh : v1.ownBlock = v.ownBlock ∨ ∃ g, w.heap.size ≤ g ∧ v1.ownBlock = some g) (hap : Apart v v') : w1.ownsRow base e' size' v' n' xs' ∧ Apart v1 v' := by
  refine ⟨hown.kept hgrow ?_, ?_⟩
  · cases hv : v'.ownBlock with
    | none => exact .inl rfl
    | some g => exact .inr (fun e => hap g e.symm hv)
  · intro g h1 h2
    rcases hfresh with h | ⟨g', h3, h4⟩
    · exact hap g (h ▸ h1) h2
    · rw [h4] at h1
      have := Option.some.inj h1
      have := (hown.lt g h2).2
      omega
theorem oneB {b : Bool} : ∀ u ∈ [Value.bool b], u.oneCell' = true := by intro u hu; simp at hu; subst hu; rfl

theorem all_types {fs : Array Field} {t : TypeId} (h : (fs.toList.all fun f => f.type == t) = true) : ∀ (j : Nat) (f : Field), fs[j]? = some f → f.type = t := by
  intro j f hj
  have hm : f ∈ fs.toList := by
    rw [← Array.getElem?_toList] at hj
    exact List.mem_of_getElem? hj
  simpa using (List.all_eq_true.1 h) f hm
end Go.Proofs.YtopadiofanaaiaaDoor
