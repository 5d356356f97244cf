/- The walk of spread's Leave at any run. The two maps of space.Memory, as functions: spaces (number -> a space's map) and a space (page number -> its entry). The walks of what a kernel begins with: pipe.New, wheel.New, space.New, space's Make. -/
import Derived.Test.YthioadiiedlmfaaGreatDoorSprG
import Derived.Test.YthioadiiedlmfaaGreatDoorTab
import Derived.Test.YthioadiiedlmfaaGreatDoorProcFork
import Derived.Maps.OwnSet
import Derived.Maps.Views
import Derived.Test.YthioadiiedlmfaaGreatDoorKerP
namespace Go.Proofs.YthioadiiedlmfaaGreatDoor
open Go.RowKit
set_option linter.unusedVariables false
set_option linter.unusedSimpArgs false
def slT (x : Value) (a b c : Option Value) : Sem Value := Instr.sliceAt 173 x a b c
theorem sl_task (x : Value) (a b c : Option Value) : Instr.sliceAt 173 x a b c = slT x a b c := rfl
theorem slT_front (w : World) {T n cap k : Nat} (h : k ≤ cap) : (slT (.slice (some ⟨T, 0, none⟩) n cap) none (some (.int .i64 k)) (some (.int .i64 k))).run Tryz.prog w = .ok (.slice (some ⟨T, 0, none⟩) k k) w := by
  have h1 : (k : Int) ≤ cap := by omega
  simp [slT, Instr.sliceAt, Instr.slice, Instr.sliceBounds, Instr.sliceBound, asIntOf, run_underlying Tryz.underlying173, h1, h, go_sem]
  (try (intro q; omega))
/-- where what lies behind place k begins -/
def behind (T k cap : Nat) : Addr := if cap = k + 1 then ⟨T, 0, none⟩ else ⟨T, (k + 1) * 15, none⟩
theorem slT_back (w : World) {T n cap k : Nat} (h : k + 1 ≤ n) (hc : n ≤ cap) : (slT (.slice (some ⟨T, 0, none⟩) n cap) (some (.int .i64 ((k : Int) + 1))) none none).run Tryz.prog w = .ok (.slice (some (behind T k cap)) (n - (k + 1)) (cap - (k + 1))) w := by
  have h1 : (k : Int) + 1 ≤ n := by omega
  have h0 : (0 : Int) ≤ (k : Int) + 1 := by omega
  have h2 : ((k : Int) + 1).toNat = k + 1 := by omega
  simp [slT, Instr.sliceAt, Instr.slice, Instr.sliceBounds, Instr.sliceBound, asIntOf, run_underlying Tryz.underlying173, h1, h0, h2, go_sem, behind]
  (try (split <;> rfl))
/-- append's run at a slice cut at i, and what lies behind i -/
def leaveL (l : List Tk) (i : Nat) (m : Nat) : List Tk := fillG (l.eraseIdx i) m
section
variable {w w' : World} {R cap : Nat} {ad : Option Addr} {cpus ticks pin : Int} {l : List Tk} {T i : Nat} {C X : Array Value} {x : Tk}
theorem tks_cut (hC : TksIn C pin l) (hc : l.length * 15 ≤ C.size) (hi : i < l.length) : TksIn (C.toList.take (i * 15) ++ (C.toList.drop ((i + 1) * 15)).take ((l.length - 1 - i) * 15)).toArray pin (l.eraseIdx i) := by
  have hlen : (C.toList.take (i * 15)).length = i * 15 := by rw [List.length_take]; simp; omega
  intro j y hy
  rw [List.getElem?_eraseIdx] at hy
  by_cases hj : j < i
  · rw [if_pos hj] at hy
    refine (hC j y hy).of fun k hk => ?_
    rw [List.getElem?_toArray, List.getElem?_append_left (by omega), List.getElem?_take, if_pos (by omega)]
    simp
  · rw [if_neg hj] at hy
    have hj2 := (List.getElem?_eq_some_iff.1 hy).1
    refine (hC (j + 1) y hy).of fun k hk => ?_
    rw [List.getElem?_toArray, List.getElem?_append_right (by omega), hlen, List.getElem?_take, if_pos (by omega), List.getElem?_drop]
    simp only [Array.getElem?_toList]
    congr 1
    omega
theorem cut_any (h : RunG w R (some ⟨T, 0, none⟩) cap cpus ticks pin l) (hi : i < l.length) : ∃ T' c w', (appT #[.slice (some ⟨T, 0, none⟩) i i, .slice (some (behind T i cap)) (l.length - (i + 1)) (cap - (i + 1))]).run Tryz.prog w = .ok (.slice (some ⟨T', 0, none⟩) (l.length - 1) c) w' ∧ RunG (w'.setCell ⟨R, 3, none⟩ (.slice (some ⟨T', 0, none⟩) (l.length - 1) c)) R (some ⟨T', 0, none⟩) c cpus ticks pin (l.eraseIdx i) ∧ (∃ v, w'.cell? ⟨R, 3, none⟩ = some v) ∧ w'.frozen? ⟨R, 3, none⟩ = false ∧ (T' = T ∨ w.heap.size ≤ T') ∧ Upd (fun _ => False) w w' := by
  obtain ⟨T0, C, e, ht⟩ := h.rows (by omega)
  injection e with e
  injection e with e
  subst e
  obtain ⟨i0, hi0, hz0, hz1, hz2⟩ := info_parts infoT
  have hsz := ht.sz
  have hln := ht.len
  have hml := ht.ml
  have hel : (l.eraseIdx i).length = l.length - 1 := by rw [List.length_eraseIdx, if_pos hi]
  by_cases h0 : l.length - 1 - i = 0
  · rw [show l.length - (i + 1) = 0 by omega]
    have hr := run_append_room_cells (P := Tryz.prog) (w := w) 173 173 186 i0 Tryz.underlying173 hi0 T 0 i i (behind T i cap) 0 (cap - (i + 1)) [] (by simp) (fun j u hu => by simp at hu) (fun u hu => by simp at hu) (by omega) (fun j hj => by simp at hj) (fun j hj => by simp at hj)
    have hq := h.r
    refine ⟨T, i, w, by rw [show l.length - 1 = i + 0 by omega]; exact hr, hq.lay (C := C) (l' := l.eraseIdx i) ⟨ht.ne, ht.row, by omega, by have := ht.mx; omega, by omega, by omega, fun j y hy => ?_⟩ hel.symm, hq.c3, hq.fz 3, .inl rfl, Upd.refl _ _⟩
    rw [List.getElem?_eraseIdx] at hy
    by_cases hj : j < i
    · rw [if_pos hj] at hy; exact ht.tks j y hy
    · rw [if_neg hj] at hy
      have := (List.getElem?_eq_some_iff.1 hy).1
      omega
  · rw [show l.length - (i + 1) = l.length - 1 - i by omega, show behind T i cap = ⟨T, (i + 1) * 15, none⟩ from if_neg (by omega)]
    obtain ⟨v', w', hr, ho, hg⟩ := run_append_arg_grows (P := Tryz.prog) (w := w) 173 173 186 i0 _ 15 112 Tryz.underlying173 hi0 hz0 hz1 hz2 rfl (by decide) ⟨T, 0, none⟩ i i (C.toList.take (i * 15)) (by rw [List.length_take]; simp; omega) (fun j u hu => by
      rw [List.getElem?_take] at hu
      split at hu
      · rw [Addr.add_lit, ht.row.cell]; simpa using hu
      · cases hu) ⟨T, (i + 1) * 15, none⟩ (l.length - 1 - i) (cap - (i + 1)) ((C.toList.drop ((i + 1) * 15)).take ((l.length - 1 - i) * 15)) (by rw [List.length_take, List.length_drop]; simp; omega) (fun j u hu => by
      rw [List.getElem?_take] at hu
      split at hu
      · rw [List.getElem?_drop] at hu
        rw [Addr.add_lit, ht.row.cell]; simpa using hu
      · cases hu) (by omega) (by unfold maxLen; omega) (by omega)
    rw [show i + (l.length - 1 - i) = l.length - 1 by omega] at ho
    have hbg : Below w.heap.size w w' := (Below.refl _ _).grown hg (Nat.le_refl _) (fun k hk => by cases hk)
    obtain ⟨T', c, C', rfl, hT, htr⟩ := tkr_own (l := l.eraseIdx i) (pin := pin) (R := R) ho (by omega) h.lt hel (by omega) (tks_cut ht.tks (by omega) hi)
    have hq := (h.keep hbg).r
    exact ⟨T', c, w', hr, hq.lay htr hel.symm, hq.c3, hq.fz 3, .inr hT, Upd.below hbg⟩
theorem idG_some {t : Int} (h : idG l t = some i) : ∃ x, l[i]? = some x ∧ x.t = t ∧ ∀ (j : Nat) (y : Tk), j < i → l[j]? = some y → (y.t == t) = false := by
  unfold idG at h
  rw [List.findIdx?_eq_some_iff_getElem] at h
  obtain ⟨h1, h2, h3⟩ := h
  refine ⟨l[i], List.getElem?_eq_getElem h1, by simpa using h2, fun j y hj hy => ?_⟩
  have := h3 j hj
  obtain ⟨h4, h5⟩ := List.getElem?_eq_some_iff.1 hy
  subst h5
  simpa using this
attribute [local go_sem ↓] ld_task bs_task sl_task
set_option maxRecDepth 100000 in
set_option maxHeartbeats 1000000 in
theorem leaveG_is {m : Nat} (h : RunG w R ad cap m ticks (onePin m) l) {t : Int} (ht : idG l t = some i) (hm : m ≤ 8) : Calls Tryz.prog 73 #[.pointer (some ⟨R, 0, none⟩), .int .i64 t] w fun e w' => e = .returned (.int .i64 0) ∧ (∃ T c, RunG w' R (some ⟨T, 0, none⟩) c m ticks (onePin m) (leaveL l i m) ∧ (ad = some ⟨T, 0, none⟩ ∨ w.heap.size ≤ T)) ∧ Upd (rS R ad) w w' := by
  obtain ⟨x0, hx0, hxt, hfirst⟩ := idG_some ht
  have hil := (List.getElem?_eq_some_iff.1 hx0).1
  have c3 := h.c3
  obtain ⟨T, C, rfl, hr⟩ := h.rows (by omega)
  have HH := Lib.hid h
  have HR := Lib.hid hr
  have hmx := h.mx
  have hcap := hr.len
  obtain ⟨n, hn⟩ : ∃ n, n = l.length := ⟨_, rfl⟩
  rw [← hn] at c3 hmx hil hcap
  have HN := Lib.hid hn
  have HX := Lib.hid (And.intro hx0 (And.intro hxt hfirst))
  clear h hn ht hx0 hxt hfirst hr
  go_enter Tryz.func73, Tryz.ntmps73
  go_wp2_with fail
  go_loop [11] (fun kv => ∃ k : Nat, k ≤ i ∧ kv = .int .i64 k) (fun kv => n - (intOf kv).toNat)
  case atStart => exact ⟨0, Nat.zero_le _, rfl⟩
  case round =>
    obtain ⟨k, hk0, rfl⟩ := hrel
    have j1 : (k : Int) < n := by omega
    obtain ⟨x, hx⟩ : ∃ x, l[k]? = some x := ⟨l[k]'(by have := HN.out; omega), List.getElem?_eq_getElem _⟩
    have t0 := (HR.out.cell (k * 15)).trans (HR.out.at hx).c0
    by_cases hk : k = i
    · subst hk
      have hxt : x.t = t := by have := HX.out.1; rw [hx] at this; injection this with this; subst this; exact HX.out.2.1
      rw [hxt] at t0
      clear hx hxt
      obtain ⟨T', c, w4, hap, hG4, ⟨u3, e3⟩, f3, hT, hU4⟩ := cut_any HH.out.drew (i := k) (by have := HN.out; omega)
      rw [← HN.out] at hap hG4
      have hs1 := fun w => slT_front w (T := T) (n := n) (cap := cap) (k := k) (by have := HR.out.len; have := HN.out; omega)
      have hs2 := fun w => slT_back w (T := T) (n := n) (cap := cap) (k := k) (by omega) (by have := HR.out.len; have := HN.out; omega)
      have hap : (Builtin.append_ #[173, 173] 173 #[.slice (some ⟨T, 0, none⟩) k k, .slice (some (behind T k cap)) (n - (k + 1)) (cap - (k + 1))]).run Tryz.prog w.drew = .ok (.slice (some ⟨T', 0, none⟩) (n - 1) c) w4 := hap
      have HG4 := Lib.hid hG4
      have HU5 := Lib.hid ((((Upd.drew w).trans hU4).mono (S' := rS R (some ⟨T, 0, none⟩)) (fun _ _ e => e.elim)).trans (Upd.set w4 (i := 3) (.slice (some ⟨T', 0, none⟩) (n - 1) c) (S := rS R (some ⟨T, 0, none⟩)) (b := R) (.inl rfl)))
      have HT3 : Hid ((some (⟨T, 0, none⟩ : Addr) = some ⟨T', 0, none⟩) ∨ w.heap.size ≤ T') := Lib.hid (by rcases hT with q | q; exact .inl (by rw [q]); exact .inr q)
      have n0 : (0 : Int) ≤ k := by omega
      have n1 : (k : Int) + 1 ≤ n := by omega
      have n2 : (n : Int) ≤ cap := by omega
      have n3 : IntKind.i64.wrap ((k : Int) + 1) = k + 1 := IntWalk.i64_in _ (by omega)
      clear hG4 hU4 hT
      go_upto_region 5 with fail
      go_region_law (refine step_append_run rfl (.tmp 31) (.tmp 38) 173 rfl hap ?_)
      all_goals
        clear hap c3 hs1 hs2 e3 f3 t0
        generalize w4.setCell ⟨R, 3, none⟩ (.slice (some ⟨T', 0, none⟩) (n - 1) c) = w5 at *
        have HFI := Lib.hid (fillG_is HG4.out (onePin_ok hm) (by omega))
        go_wp2_with (go_at_call 140; refine HFI.out.mono ?_; rintro e7 w7 ⟨rfl, hr7, hu7⟩; have HR7 := Lib.hid hr7; have HU7 := Lib.hid (HU5.out.trans' hu7 (fun k hk e => by
          rcases e with e | ⟨a, e1, e2⟩
          · exact .inl e
          · injection e1 with e1
            subst e1
            rcases HT3.out with q | q
            · exact .inr ⟨_, q, e2⟩
            · have e2 : k = T' := e2
              omega)); clear hr7 hu7)
        go_ret
        exact ⟨rfl, ⟨_, _, HR7.out, HT3.out⟩, HU7.out⟩
    · have hxt : (x.t == t) = false := HX.out.2.2 k x (by omega) hx
      clear hx
      go_wp2_with fail
      go_round
      case rel => exact ⟨k + 1, by omega, by go_num⟩
      case measure => simp [intOf]; omega
end
end Go.Proofs.YthioadiiedlmfaaGreatDoor
namespace Go.Proofs.YthioadiiedlmfaaGreatDoor
open Go.RowKit Go.Maps
set_option linter.unusedVariables false
set_option linter.unusedSimpArgs false
/-- An entry of a space: its page's block, and its rights. -/
def encE : Option (Nat × Int) → Value
  | none => .agg #[.pointer none, .int .i64 0]
  | some (g, r) => .agg #[.pointer (some ⟨g, 0, none⟩), .int .i64 r]
def encO : Option Nat → Value
  | none => .map none
  | some b => .map (some b)
def datE : Option (Nat × Int) → DataW Unit
  | none => .nil
  | some (g, r) => .agg [.lit (.int .i64 g), .lit (.int .i64 r)]
def datO : Option Nat → DataW Unit
  | none => .nil
  | some b => .lit (.int .i64 b)
open Classical in
noncomputable def redE (v : Value) : Option (DataW Unit × List MemPlace) := if h : ∃ x, v = encE x then some (datE h.choose, []) else none
open Classical in
noncomputable def redO (v : Value) : Option (DataW Unit × List MemPlace) := if h : ∃ x, v = encO x then some (datO h.choose, []) else none
theorem encE_inj {x y : Option (Nat × Int)} (h : encE x = encE y) : x = y := by
  cases x with
  | none => cases y with
    | none => rfl
    | some y => obtain ⟨g, r⟩ := y; simp [encE] at h
  | some x => obtain ⟨g, r⟩ := x; cases y with
    | none => simp [encE] at h
    | some y => obtain ⟨g', r'⟩ := y; simp [encE] at h; obtain ⟨h1, h2⟩ := h; rw [h1, h2]
theorem encO_inj {x y : Option Nat} (h : encO x = encO y) : x = y := by
  cases x <;> cases y <;> simp [encO] at h ⊢
  exact h
theorem datE_inj {x y : Option (Nat × Int)} (h : datE x = datE y) : x = y := by
  cases x with
  | none => cases y with
    | none => rfl
    | some y => obtain ⟨g, r⟩ := y; simp [datE] at h
  | some x => obtain ⟨g, r⟩ := x; cases y with
    | none => simp [datE] at h
    | some y => obtain ⟨g', r'⟩ := y; simp [datE] at h; obtain ⟨h1, h2⟩ := h; rw [h2]; congr; omega
theorem datO_inj {x y : Option Nat} (h : datO x = datO y) : x = y := by
  cases x <;> cases y <;> simp [datO] at h ⊢
  omega
theorem redE_enc (x : Option (Nat × Int)) : redE (encE x) = some (datE x, []) := by
  unfold redE
  have h : ∃ y, encE x = encE y := ⟨x, rfl⟩
  rw [dif_pos h, ← encE_inj h.choose_spec]
theorem redO_enc (x : Option Nat) : redO (encO x) = some (datO x, []) := by
  unfold redO
  have h : ∃ y, encO x = encO y := ⟨x, rfl⟩
  rw [dif_pos h, ← encO_inj h.choose_spec]
theorem redE_inv {v : Value} {x : Option (Nat × Int)} {ps : List MemPlace} (h : redE v = some (datE x, ps)) : v = encE x := by
  unfold redE at h
  split at h
  · rename_i h'
    simp only [Option.some.injEq, Prod.mk.injEq] at h
    rw [← datE_inj h.1]; exact h'.choose_spec
  · cases h
theorem redO_inv {v : Value} {x : Option Nat} {ps : List MemPlace} (h : redO v = some (datO x, ps)) : v = encO x := by
  unfold redO at h
  split at h
  · rename_i h'
    simp only [Option.some.injEq, Prod.mk.injEq] at h
    rw [← datO_inj h.1]; exact h'.choose_spec
  · cases h
theorem keyed3 : Keyed Tryz.prog 3 := int_keyed Tryz.underlying3
/-- Block b is a space's map: f says what lies at each key. -/
def IMap (w : World) (b n : Nat) (f : Int → Option (Nat × Int)) : Prop :=
  ∃ D : DataW Unit, w.ownsMap Tryz.prog 3 redE b n D ∧ IsMap D ∧ ∀ k, D.atKey (.int .i64 k) .nil = datE (f k) ∧ Maps.has D (.int .i64 k) = (f k).isSome
def OMap (w : World) (b n : Nat) (f : Int → Option Nat) : Prop :=
  ∃ D : DataW Unit, w.ownsMap Tryz.prog 3 redO b n D ∧ IsMap D ∧ ∀ k, D.atKey (.int .i64 k) .nil = datO (f k)
theorem zero46 (w : World) : (zeroValue 267).run Tryz.prog w = .ok (encE none) w := by kernel_rfl
theorem zero42 (w : World) : (zeroValue 180).run Tryz.prog w = .ok (encO none) w := by kernel_rfl
theorem IMap.look {w : World} {b n : Nat} {f : Int → Option (Nat × Int)} (h : IMap w b n f) {k : Int} (hk : (Lit.int .i64 k).wf = true) : (Instr.lookup 180 (.map (some b)) (.int .i64 k) false).run Tryz.prog w = .ok (encE (f k)) w := by
  obtain ⟨D, hD, hm, hf⟩ := h
  obtain ⟨v, ps, hr, hv⟩ := hD.lookup keyed3 Tryz.underlying180 (zero46 w) (redE_enc none) (keyOf_int_mk Tryz.underlying3 hk)
  rw [show datE none = .nil from rfl, (hf k).1] at hv
  rw [hr, redE_inv hv]
theorem IMap.look_ok {w : World} {b n : Nat} {f : Int → Option (Nat × Int)} (h : IMap w b n f) {k : Int} (hk : (Lit.int .i64 k).wf = true) : (Instr.lookup 180 (.map (some b)) (.int .i64 k) true).run Tryz.prog w = .ok (.tuple #[encE (f k), .bool (f k).isSome]) w := by
  obtain ⟨D, hD, hm, hf⟩ := h
  obtain ⟨v, ps, hr, hv⟩ := hD.look_ok keyed3 Tryz.underlying180 (zero46 w) (redE_enc none) (keyOf_int_mk Tryz.underlying3 hk)
  rw [show datE none = .nil from rfl, (hf k).1] at hv
  rw [hr, redE_inv hv, (hf k).2]
theorem OMap.look {w : World} {b n : Nat} {f : Int → Option Nat} (h : OMap w b n f) {k : Int} (hk : (Lit.int .i64 k).wf = true) : (Instr.lookup 176 (.map (some b)) (.int .i64 k) false).run Tryz.prog w = .ok (encO (f k)) w := by
  obtain ⟨D, hD, hm, hf⟩ := h
  obtain ⟨v, ps, hr, hv⟩ := hD.lookup keyed3 Tryz.underlying176 (zero42 w) (redO_enc none) (keyOf_int_mk Tryz.underlying3 hk)
  rw [show datO none = .nil from rfl, hf k] at hv
  rw [hr, redO_inv hv]
theorem ikey (k : Int) : WideAt.IsKeyLit (Lit.int .i64 k) := trivial
theorem lit_ne {k k' : Int} (h : k' ≠ k) : (Lit.int .i64 k' : Lit) ≠ Lit.int .i64 k := fun e => h (by injection e)
theorem IMap.put {w : World} {b n : Nat} {f : Int → Option (Nat × Int)} (h : IMap w b n f) {k : Int} (hk : (Lit.int .i64 k).wf = true) (hn : n < maxLen) (g : Nat) (r : Int) : ∃ w', (Instr.mapUpdate 180 (.map (some b)) (.int .i64 k) (encE (some (g, r)))).run Tryz.prog w = .ok () w' ∧ IMap w' b (n + 1) (fun j => if j = k then some (g, r) else f j) ∧ w.grownBy w' (some b) := by
  obtain ⟨D, hD, hm, hf⟩ := h
  obtain ⟨w', hr, ho, hg⟩ := hD.update keyed3 Tryz.underlying180 hn (keyOf_int_mk Tryz.underlying3 hk) (redE_enc (some (g, r)))
  refine ⟨w', hr, ⟨_, ho, hm.put _ _, fun j => ?_⟩, hg⟩
  by_cases hj : j = k
  · subst hj
    exact ⟨(atKey_put_same hm (ikey _) _ _).trans (by simp), (has_put_same hm (ikey _) _).trans (by simp)⟩
  · dsimp only
    rw [if_neg hj]
    exact ⟨(atKey_put_other (lit_ne hj) _ _).trans (hf j).1, (has_put_other (lit_ne hj) _).trans (hf j).2⟩
theorem OMap.put {w : World} {b n : Nat} {f : Int → Option Nat} (h : OMap w b n f) {k : Int} (hk : (Lit.int .i64 k).wf = true) (hn : n < maxLen) (g : Nat) : ∃ w', (Instr.mapUpdate 176 (.map (some b)) (.int .i64 k) (encO (some g))).run Tryz.prog w = .ok () w' ∧ OMap w' b (n + 1) (fun j => if j = k then some g else f j) ∧ w.grownBy w' (some b) := by
  obtain ⟨D, hD, hm, hf⟩ := h
  obtain ⟨w', hr, ho, hg⟩ := hD.update keyed3 Tryz.underlying176 hn (keyOf_int_mk Tryz.underlying3 hk) (redO_enc (some g))
  refine ⟨w', hr, ⟨_, ho, hm.put _ _, fun j => ?_⟩, hg⟩
  by_cases hj : j = k
  · subst hj
    exact (atKey_put_same hm (ikey _) _ _).trans (by simp)
  · dsimp only
    rw [if_neg hj]
    exact (atKey_put_other (lit_ne hj) _ _).trans (hf j)
theorem IMap.kept {w w' : World} {b n : Nat} {f : Int → Option (Nat × Int)} {row : Option Nat} (h : IMap w b n f) (hg : w.grownBy w' row) (hne : some b ≠ row) : IMap w' b n f := by
  obtain ⟨D, hD, hm, hf⟩ := h
  exact ⟨D, hD.kept hg hne, hm, hf⟩
theorem OMap.kept {w w' : World} {b n : Nat} {f : Int → Option Nat} {row : Option Nat} (h : OMap w b n f) (hg : w.grownBy w' row) (hne : some b ≠ row) : OMap w' b n f := by
  obtain ⟨D, hD, hm, hf⟩ := h
  exact ⟨D, hD.kept hg hne, hm, hf⟩
theorem IMap.made (w : World) : IMap (w.alloc (.map #[] 0)) w.heap.size 0 (fun _ => none) :=
  ⟨_, World.ownsMap_made w _ _ _, isMap_empty, fun k => ⟨rfl, rfl⟩⟩
theorem OMap.made (w : World) : OMap (w.alloc (.map #[] 0)) w.heap.size 0 (fun _ => none) :=
  ⟨_, World.ownsMap_made w _ _ _, isMap_empty, fun k => rfl⟩
end Go.Proofs.YthioadiiedlmfaaGreatDoor
namespace Go.Proofs.YthioadiiedlmfaaGreatDoor
open Go.RowKit Go.Maps
set_option linter.unusedVariables false
set_option linter.unusedSimpArgs false
def pipA : Array Value := Array.replicate 16 (.pointer none)
set_option maxRecDepth 100000 in
set_option maxHeartbeats 400000 in
theorem pnew_is (w : World) : Calls Tryz.prog 24 #[] w fun e w' => e = .returned (.pointer (some ⟨w.heap.size, 0, none⟩)) ∧ w' = w.alloc (.cells pipA 155) := by
  go_enter Tryz.func24, Tryz.ntmps24
  go_wp2_with fail
  go_ret
  exact ⟨rfl, rfl⟩
set_option maxRecDepth 100000 in
set_option maxHeartbeats 400000 in
theorem wnew_is (w : World) : Calls Tryz.prog 25 #[.int .u32 0] w fun e w' => e = .returned (.pointer (some ⟨w.heap.size, 0, none⟩)) ∧ w' = w.alloc (.cells #[.int .u32 0, .slice none 0 0] 158) := by
  go_enter Tryz.func25, Tryz.ntmps25
  go_wp2_with fail
  go_ret
  exact ⟨rfl, rfl⟩
set_option maxRecDepth 100000 in
set_option maxHeartbeats 400000 in
theorem spnew_is (w : World) : Calls Tryz.prog 29 #[.int .i64 64, .int .i64 64] w fun e w' => e = .returned (.tuple #[.pointer (some ⟨w.heap.size + 1, 0, none⟩), .int .i64 0]) ∧ w' = (w.alloc (.map #[] 0)).alloc (.cells #[.int .i64 64, .int .i64 64, .int .i64 0, .slice none 0 0, .map (some w.heap.size)] 179) := by
  have hmm := @run_makeMap Tryz.prog
  go_enter Tryz.func29, Tryz.ntmps29
  go_wp2_with fail
  go_ret2
  exact ⟨rfl, rfl⟩
theorem grown_trans {a b c : World} {row : Option Nat} (h : a.grownBy b row) (k : b.grownBy c row) : a.grownBy c row := ⟨k.os.trans h.os, k.tape.trans h.tape, k.output.trans h.output, Nat.le_trans h.size k.size, fun i hi hne => (k.block i (Nat.lt_of_lt_of_le hi h.size) hne).trans (h.block i hi hne)⟩
theorem map_is_nil (w : World) : (binOp .eql 180 (.map none) (.map none)).run Tryz.prog w = .ok (.bool true) w := by kernel_rfl
set_option maxRecDepth 100000 in
set_option maxHeartbeats 400000 in
theorem spmake_is {w : World} {M so : Nat} (m4 : w.cell? ⟨M, 4, none⟩ = some (.map (some so))) (om : OMap w so 0 (fun _ => none)) : Calls Tryz.prog 30 #[.pointer (some ⟨M, 0, none⟩)] w fun e w' => e = .returned (.tuple #[.int .i64 1, .int .i64 0]) ∧ OMap w' so 1 (fun k => if k = 1 then some w.heap.size else none) ∧ IMap w' w.heap.size 0 (fun _ => none) ∧ w.grownBy w' (some so) := by
  have hmm := @run_makeMap Tryz.prog
  have l1 : (Instr.lookup 176 (.map (some so)) (.int .i64 1) false).run Tryz.prog w = .ok (.map none) w := om.look (by decide)
  have l2 := map_is_nil w
  have hg0 := World.grownBy_alloc w (.map #[] 0) none
  have hso : so < w.heap.size := by
    obtain ⟨D, hD, _⟩ := om
    exact hD.lt
  obtain ⟨w2, hup, om2, hg2⟩ := (om.kept hg0 (by simp)).put (k := 1) (by decide) (by unfold maxLen; omega) w.heap.size
  have hup : (Instr.mapUpdate 176 (.map (some so)) (.int .i64 1) (.map (some w.heap.size))).run Tryz.prog (w.alloc (.map #[] 0)) = .ok () w2 := hup
  have HI := Lib.hid ((IMap.made w).kept hg2 (by intro e; injection e with e; omega))
  have HG := Lib.hid (show w.grownBy w2 (some so) from grown_trans (World.grownBy_alloc w (.map #[] 0) (some so)) hg2)
  have HO := Lib.hid om2
  clear om om2 hg2 hg0 hso
  go_enter Tryz.func30, Tryz.ntmps30
  go_wp2_with fail
  refine wp_loop_rounds 1 ?_
  rw [rounds_succ]
  go_wp2_with fail
  go_ret2
  exact ⟨rfl, HO.out, HI.out, HG.out⟩
end Go.Proofs.YthioadiiedlmfaaGreatDoor
