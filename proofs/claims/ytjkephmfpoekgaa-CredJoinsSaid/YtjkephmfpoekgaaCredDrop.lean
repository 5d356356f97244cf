/- The walks of package cred: Has, copied, Drop, Become, by whole rows. -/
import Derived.Test.YtjkephmfpoekgaaCredRow
import Derived.Laws.ResultCell
import Derived.Lib.SliceRun
namespace Go.Proofs.Ytjkephmfpoekgaa.CredLaw
open Go.RowKit
set_option linter.unusedVariables false
set_option linter.unusedSimpArgs false
abbrev zeroC : C := ⟨0, 0, [], 0, 0, 0⟩
abbrev nilS : Value := .slice none 0 0
def store44 (p v : Value) : Sem Unit := Instr.storeAt 24 p v
theorem store44_eq (p v : Value) : Instr.storeAt 24 p v = store44 p v := rfl
theorem zero44 (w : World) : (zeroValue 24).run Try.prog w = .ok (.agg (cellsC zeroC nilS)) w := Try.zeroValue24 w
section
variable {w : World} {b T : Nat} {c : Array Value}
theorem Row.setC (h : Row w b T c) {i : Nat} {c' : Array Value} {v : Value} (he : c.setIfInBounds i v = c') : Row (w.setCell ⟨b, i, none⟩ v) b T c' := by
  unfold Row at *
  simp only [World.setCell, Array.getElem?_modify, if_true, h, Option.map_some, he, Option.isSome_none, Bool.false_eq_true, if_false]
theorem Row.setO (h : Row w b T c) {d i : Nat} (hd : d ≠ b) (v : Value) : Row (w.setCell ⟨d, i, none⟩ v) b T c := by
  unfold Row at *
  rw [Below.heap_setCell _ _ _ _ (by simpa using Ne.symm hd)]
  exact h
theorem Row.store44 {d : C} {m : Value} (h : Row w b 24 (cellsC d m)) (d' : C) (a : Option Addr) (n k : Nat) : (CredLaw.store44 (.pointer (some ⟨b, 0, none⟩)) (.agg (cellsC d' (.slice a n k)))).run Try.prog w = .ok () (w.setRow b (cellsC d' (.slice a n k))) := by
  simp only [CredLaw.store44, Instr.storeAt, Instr.sureAddr, Sem.run_bind, Sem.run_pure, Result.andThen]
  exact run_storeVar_row w b 24 24 (cellsC d m) (cellsC d' (.slice a n k)) h (by kernel_rfl) rfl (by simp [cellsC, Value.oneCell'])
theorem Row.loadVar44 {d : C} {m : Value} (h : Row w b 24 (cellsC d m)) : (Go.loadVar 24 ⟨b, 0, none⟩).run Try.prog w = .ok (.agg (cellsC d m)) w :=
  run_loadVar_row w b 24 24 (cellsC d m) (0, 0) _ h Try.underlying24 rfl (by kernel_rfl)
end
theorem store44_new (w : World) (d0 : C) (m0 : Value) (d : C) (a : Option Addr) (n k : Nat) : (store44 (.pointer (some ⟨w.heap.size, 0, none⟩)) (.agg (cellsC d (.slice a n k)))).run Try.prog (w.alloc (.cells (cellsC d0 m0) 24)) = .ok () (w.alloc (.cells (cellsC d (.slice a n k)) 24)) := by
  rw [(row_new w 24 (cellsC d0 m0)).store44 d, World.setRow_alloc_new]
theorem load44_new (w : World) (d : C) (m : Value) : (load44 (.pointer (some ⟨w.heap.size, 0, none⟩))).run Try.prog (w.alloc (.cells (cellsC d m) 24)) = .ok (.agg (cellsC d m)) (w.alloc (.cells (cellsC d m) 24)) := (row_new w 24 _).load44
attribute [local go_sem ↓] load44_eq store44_eq zero44 cellsC_of
/-- a slice of the call's own, with these numbers -/
def Own (w : World) (B : Nat) (v : Value) (xs : List Int) : Prop := w.ownsRow B 3 1 v xs.length (xs.map (Value.int .i64))
theorem Own.shape {w : World} {B : Nat} {v : Value} {xs : List Int} (h : Own w B v xs) : ∃ a k, v = .slice a xs.length k := by
  rcases h.2 with ⟨h, h0⟩ | ⟨g, cap, cur, h, _⟩
  · exact ⟨none, 0, by rw [h, h0]⟩
  · exact ⟨_, cap, h⟩
theorem Own.of {w w' : World} {B B' : Nat} {v : Value} {xs : List Int} (h : Own w B v xs) (hB : B' ≤ B) (hk : ∀ g, B ≤ g → w'.heap[g]? = w.heap[g]?) : Own w' B' v xs := by
  refine ⟨h.1, ?_⟩
  rcases h.2 with h | ⟨g, cap, cur, hv, hg, hc, r⟩
  · exact .inl h
  · exact .inr ⟨g, cap, cur, hv, Nat.le_trans hB hg, (hk g hg).trans hc, r⟩
theorem setRow_heap (w : World) (d : Nat) (c : Array Value) (g : Nat) (h : g ≠ d) : (w.setRow d c).heap[g]? = w.heap[g]? := by
  simp only [World.setRow, Array.getElem?_modify]
  rw [if_neg (fun e => h e.symm)]
def ClonePost (xs : List Int) (w : World) (e : Ending) (w' : World) : Prop := ∃ a k, e = .returned (.slice a xs.length k) ∧ Own w' w.heap.size (.slice a xs.length k) xs ∧ Below w.heap.size w w'
set_option maxRecDepth 100000 in
set_option maxHeartbeats 400000 in
theorem clone_is {w : World} {v : Value} {xs : List Int} (h8 : xs.length ≤ 64) (hm : At (Value.int .i64) 0 w v xs) : Calls Try.prog 19 #[v] w (ClonePost xs w) := by
  obtain ⟨a, cap, rfl, hl, hcap, hm⟩ := hm
  have q22 : ∀ (w : World) (a : Option Addr) (n c n' c' : Nat), (binOp .eql 22 (.slice a n c) (.slice none n' c')).run Try.prog w = .ok (.bool a.isNone) w := fun w a n c n' c' => Lib.run_eql_slice_nil w _ _ a n c n' c' Try.underlying22
  cases a with
  | none =>
    have h0 : xs = [] := by
      rcases hm with h | ⟨b, off, h, _⟩
      · exact h
      · cases h
    subst h0
    clear hm
    go_enter Try.func19, Try.ntmps19
    go_wp2
    go_ret
    exact ⟨none, 0, rfl, World.ownsRow_nil _ _ _ _, Below.refl _ _⟩
  | some ad =>
    have hcl : ∀ j u, (xs.map (Value.int .i64))[j]? = some u → w.cell? (ad.add j) = some u := by
      rcases hm with h | ⟨b, off, hab, hlt, hc⟩
      · intro j u hj
        rw [h] at hj
        simp at hj
      · simp only [Option.some.injEq] at hab
        subst hab
        intro j u hj
        rw [List.getElem?_map] at hj
        cases hx : xs[j]? with
        | none => rw [hx] at hj; cases hj
        | some x =>
          rw [hx] at hj
          have hjl : j < xs.length := (List.getElem?_eq_some_iff.1 hx).1
          have := hc j hjl
          rw [Addr.add_lit, this, ← hj]
          simp [List.getD, hx]
    have hlen : (xs.map (Value.int .i64)).length = xs.length * 1 := by simp
    have hone : ∀ u ∈ xs.map (Value.int .i64), u.oneCell' = true := by
      intro u hu
      obtain ⟨x, -, rfl⟩ := List.mem_map.1 hu
      rfl
    obtain ⟨n, hn⟩ : ∃ n, n = xs.length := ⟨_, rfl⟩
    unfold ClonePost Own
    rw [← hn] at h8 hl hlen ⊢
    generalize xs.map (Value.int .i64) = cs at *
    have HC := Lib.hid hcl
    have HO := Lib.hid hone
    clear hm hn hcl hone
    obtain ⟨i0, hi, hz0, hz1, hz2⟩ : ∃ i : TypeInfo, Try.prog.info? 3 = some i ∧ i.zero = some (.int .i64 0) ∧ i.size = 1 ∧ i.bytes = 8 := ⟨_, rfl, by kernel_rfl, by kernel_rfl, by kernel_rfl⟩
    go_enter Try.func19, Try.ntmps19
    go_wp2_with (at_builtin; go_loud (refine wpList_append_fresh _ rfl (.tmp 5) (.tmp 6) 22 rfl w.heap.size 3 i0 (.int .i64 0) 1 8 Try.underlying22 hi hz0 hz1 hz2 rfl (by decide) _ _ _ rfl (World.ownsRow_made w #[] 0 (Nat.le_refl _) (Nat.zero_le _) rfl) ad n _ cs rfl hlen (fun j u h => by have := HC.out j u h; rw [World.cell?_alloc_lt]; exact this; exact World.block_lt_of_cell? w _ this) HO.out (by unfold maxLen; omega) (by omega) (by simp) ?_))
    intro v' w1 hown hgrow hfresh
    have hb1 : Below w.heap.size w w1 := ((Below.refl _ _).alloc (Nat.le_refl _) _).grown hgrow (by simp) (fun g hg => by simp [Value.ownBlock] at hg; omega)
    clear hgrow hfresh
    rcases hown.2 with ⟨rfl, hn⟩ | ⟨g, cap', cur, rfl, hb, hg, hnc, hcm, hcs, htake⟩
    · go_wp2
      go_ret
      obtain rfl : n = 0 := by omega
      exact ⟨none, 0, rfl, by simpa using hown, hb1⟩
    · clear hb hg hnc hcm hcs htake
      go_wp2
      go_ret
      exact ⟨some ⟨g, 0, none⟩, cap', by simp, by simpa using hown, hb1⟩
def CopyPost (c : C) (w : World) (e : Ending) (w' : World) : Prop := ∃ a k, e = .returned (.agg (cellsC c (.slice a c.xs.length k))) ∧ Own w' w.heap.size (.slice a c.xs.length k) c.xs ∧ Below w.heap.size w w'
set_option maxRecDepth 100000 in
set_option maxHeartbeats 400000 in
theorem copied_is {w : World} {m : Value} {c : C} (h8 : c.xs.length ≤ 64) (hm : At (Value.int .i64) 0 w m c.xs) : Calls Try.prog 12 #[.agg (cellsC c m)] w (CopyPost c w) := by
  have HCL := Lib.hid (clone_is h8 (hm.keep (Go.Joins.below_alloc2 w (.cells (cellsC c m) 24) (.cells (cellsC zeroC nilS) 24))))
  obtain ⟨a, cap, rfl, -, -, -⟩ := hm
  have HR1 := Lib.hid ((row_new w 24 (cellsC c (.slice a c.xs.length cap))).alloc (.cells (cellsC zeroC nilS) 24))
  have HR2 := Lib.hid (row_new (w.alloc (.cells (cellsC c (.slice a c.xs.length cap)) 24)) 24 (cellsC zeroC nilS))
  have HA := Lib.hid (Go.Joins.below_alloc2 w (.cells (cellsC c (.slice a c.xs.length cap)) 24) (.cells (cellsC zeroC nilS) 24))
  rw [World.size_alloc] at HR2
  have hc2 : ((w.alloc (.cells (cellsC c (.slice a c.xs.length cap)) 24)).alloc (.cells (cellsC zeroC nilS) 24)).cell? ⟨w.heap.size, 2, none⟩ = some (.slice a c.xs.length cap) := HR1.out.cell 2
  obtain ⟨n, hn⟩ : ∃ n, c.xs.length = n := ⟨_, rfl⟩
  rw [hn] at HCL HR1 HR2 HA hc2 ⊢
  have HN := Lib.hid hn
  clear hn h8
  go_enter Try.func12, Try.ntmps12
  go_wp2_with fail
  refine HCL.out.mono ?_
  rintro e w1 ⟨a', k', rfl, hown, hb1⟩
  rw [HN.out] at hown ⊢
  have HR1' := Lib.hid (HR1.out.keep hb1)
  have HR2' := Lib.hid (HR2.out.keep hb1)
  have d2 : w1.cell? ⟨w.heap.size, 2, none⟩ = some (.slice a n cap) := HR1'.out.cell 2
  have f2 := HR1'.out.fz 2
  have HR3 : Hid (Row (w1.setCell ⟨w.heap.size, 2, none⟩ (.slice a' n k')) w.heap.size 24 (cellsC c (.slice a' n k'))) := Lib.hid (HR1'.out.setC rfl)
  have HR4 := Lib.hid (HR2'.out.setO (show w.heap.size ≠ w.heap.size + 1 by omega) (i := 2) (.slice a' n k'))
  have HB3 := Lib.hid ((HA.out.trans (hb1.mono HA.out.size)).setCell (p := ⟨w.heap.size, 2, none⟩) (Nat.le_refl _) (.slice a' n k'))
  have HOW := Lib.hid hown
  have HBS := Lib.hid hb1
  have hl := HR3.out.load44
  have hst := HR4.out.store44 c a' n k'
  clear hb1 hown hc2
  go_wp2
  refine bodyPost_ret (v := .agg (cellsC c (.slice a' n k'))) (results_cell_row rfl _ _ _ _ (cellsC c (.slice a' n k')) (0, 0) _ rfl (HR4.out.setRow _) Try.underlying24 rfl (by kernel_rfl)) rfl ⟨a', k', by rw [HN.out], ?_, below_setRow HB3.out (by omega) _⟩
  rw [HN.out]
  refine Own.of (B' := w.heap.size) HOW.out (by simp only [World.size_alloc]; omega) (fun g hg => ?_)
  simp only [World.size_alloc] at hg
  rw [setRow_heap _ _ _ _ (by omega), Below.heap_setCell _ _ _ _ (by show g ≠ w.heap.size; omega)]
end Go.Proofs.Ytjkephmfpoekgaa.CredLaw
