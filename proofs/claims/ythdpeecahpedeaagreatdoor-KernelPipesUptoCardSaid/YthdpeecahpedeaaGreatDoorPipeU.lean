/- A slice of byte slices, opened. -/
import Derived.Test.YthdpeecahpedeaaGreatDoorRows
import Derived.Test.YthdpeecahpedeaaGreatDoorPipeT
import Derived.Deep.Matrix
namespace Go.Proofs.YthdpeecahpedeaaGreatDoor
set_option linter.unusedSimpArgs false
open Go.ChangeShapes Go.WideShapes Go.Deep Go.RowKit
set_option linter.unusedVariables false
section
variable {H : Type} {enc : TypeId × Value → H} {w : World} {base : Nat} {held : Bool}
theorem bulk_pos (d : DataW H) : 1 ≤ Rows.uptoBulk d := by
  cases d with
  | lit l => cases l <;> simp [Rows.uptoBulk]
  | _ => simp [Rows.uptoBulk]
theorem bulk_len : ∀ (l : List (DataW H)), l.length ≤ Rows.uptoBulkAll l
  | [] => Nat.zero_le _
  | d :: r => by
    have h1 := bulk_pos d
    have h2 := bulk_len r
    simp only [Rows.uptoBulkAll, List.length_cons]
    omega
theorem at_row {A : Option Addr} {L C : Nat} {Z : List Int} (h1 : L ≤ C) (h2 : C ≤ maxLen) (h3 : Z.length = C) (h5 : A = none → C = 0) (h6 : ∀ a', A = some a' → ∀ c, c < C → w.cell? (a'.add c) = some (.int .u8 (Z.getD c 0))) : (Z.take L).length = L ∧ At (Value.int .u8) 0 w (.slice A L C) (Z.take L) := by
  have hl : (Z.take L).length = L := by rw [List.length_take]; omega
  refine ⟨hl, A, C, by rw [hl], by omega, h2, ?_⟩
  by_cases h0 : L = 0
  · left
    exact List.eq_nil_of_length_eq_zero (by omega)
  · right
    cases A with
    | none => have := h5 rfl; omega
    | some a =>
      obtain ⟨b, off, spot⟩ := a
      have hc0 := h6 _ rfl 0 (by omega)
      have hspot : spot = none := by simpa [Addr.add] using World.cell?_spot hc0
      subst hspot
      refine ⟨b, off, rfl, ?_, fun i hi => ?_⟩
      · have := World.block_lt_of_cell? w _ hc0
        rw [Addr.add_lit] at this
        exact this
      · have := h6 _ rfl i (by omega)
        rw [Addr.add_lit] at this
        rw [this]
        rw [hl] at hi
        congr 2
        simp [List.getD, List.getElem?_take, hi]
set_option maxRecDepth 100000 in
set_option maxHeartbeats 400000 in
theorem open_els {r : Reach} {b0 : Nat} {v : Value} {d : DataW H} {p : List MemPlace} (hv : Value.okWide Tryz.prog w r b0 22 v) (h : DataW.Trod enc Tryz.prog w base (fun _ => true) held 22 v d p) : ∃ a N C, v = .slice a N C ∧ Els w a N ∧ N ≤ Rows.uptoBulk d := by
  obtain ⟨a0, len0, cap0, rfl⟩ := okWide_slice Tryz.underlying22 hv
  obtain ⟨fuel, hf⟩ := h
  refine ⟨a0, len0, cap0, rfl, ?_⟩
  rcases open_int_rows (k := .u8) Tryz.underlying22 Tryz.underlying28 Tryz.underlying5 (by kernel_rfl) (by kernel_rfl) hf with ⟨hcs, hx⟩ | ⟨a, len, cap, A, L, C, Z, hcs, hb, hl, hm, hx, hr⟩
  · simp [Value.cells] at hcs
    obtain ⟨rfl, rfl, rfl⟩ := hcs
    exact ⟨.inl rfl, Nat.zero_le _⟩
  · simp [Value.cells] at hcs
    obtain ⟨rfl, rfl, rfl⟩ := hcs
    refine ⟨?_, ?_⟩
    · by_cases h0 : len0 = 0
      · exact .inl h0
      · right
        obtain ⟨b, off, spot⟩ := a
        have hc0 := (hr 0 (by omega)).1
        have hspot : spot = none := by simpa [Addr.add] using World.cell?_spot hc0
        subst hspot
        refine ⟨b, off, rfl, ?_, fun i hi => ?_⟩
        · have := World.block_lt_of_cell? w _ hc0
          rw [Addr.add_lit] at this
          exact this
        · obtain ⟨r0, r1, r2, r3, r4, r5, r6⟩ := hr i (by omega)
          obtain ⟨e1, e2⟩ := at_row (w := w) r1 r2 r3 r5 (fun a' ha c hc => (r6 a' ha).2 c hc)
          rw [Addr.add_lit] at r0
          exact ⟨A i, (Z i).take (L i), C i, by rw [e1]; exact r0, by rw [e1]; exact e2, r5⟩
    · have hxx : d = _ := (Prod.mk.inj hx).1
      have hw := bulk_len ((List.range len0).map fun r => intRow (H := H) .u8 (A r) (L r) (Z r))
      rw [hxx]
      simp only [Rows.uptoBulk, List.length_map, List.length_range] at hw ⊢
      omega
end
end Go.Proofs.YthdpeecahpedeaaGreatDoor
