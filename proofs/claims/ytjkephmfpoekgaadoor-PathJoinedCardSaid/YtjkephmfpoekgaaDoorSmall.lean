/- A slice of integers, opened: its length is at most the bulk of what was read. -/
import Derived.Test.YtjkephmfpoekgaaDoorRows
import Derived.Test.YtjkephmfpoekgaaDoorOpens
namespace Go.Proofs.YtjkephmfpoekgaaDoor.PathLaw
open Go.ChangeShapes Go.WideShapes Go.Deep Go.RowKit Go.Proofs.YtjkephmfpoekgaaDoor.CredLaw
section
variable {H : Type} {enc : TypeId × Value → H} {w : World} {base : Nat} {held : Bool}
theorem bulk_pos (d : DataW H) : 1 ≤ Rows.uptoBulk d := by
  cases d with
  | lit l => cases l <;> simp [Rows.uptoBulk]
  | _ => simp [Rows.uptoBulk]
theorem bulk_len : ∀ (l : List (DataW H)), l.length ≤ Rows.uptoBulkAll l
  | [] => Nat.zero_le _
  | d :: r => by
    have h1 := bulk_pos d
    have h2 := bulk_len r
    simp only [Rows.uptoBulkAll, List.length_cons]
    omega
set_option maxRecDepth 100000 in
theorem open_ints_bulk {r : Reach} {b0 : Nat} {v : Value} {d : DataW H} {p : List MemPlace} (hv : Value.okWide Tryd.prog w r b0 25 v) (h : DataW.Trod enc Tryd.prog w base (fun _ => true) held 25 v d p) : ∃ xs : List Int, At (Value.int .i64) 0 w v xs ∧ xs.length ≤ Rows.uptoBulk d := by
  obtain ⟨xs, hx, _⟩ := open_at_int Tryd.underlying25 Tryd.underlying3 (by kernel_rfl) hv h
  refine ⟨xs, hx, ?_⟩
  obtain ⟨a0, cap0, rfl, -⟩ := hx
  obtain ⟨fuel, hf⟩ := h
  rcases open_slice1 Tryd.underlying25 (by kernel_rfl) hf with ⟨hcs, _⟩ | ⟨a, len, cap, m, n, V, D, Pl, hcs, hb, hl, hm, hmm, hx, hi⟩
  · simp [Value.cells] at hcs
    obtain ⟨-, h0, -⟩ := hcs
    have h00 : xs.length = 0 := by first | exact h0 | (rw [h0]; rfl)
    omega
  · simp [Value.cells] at hcs
    obtain ⟨-, h0, -⟩ := hcs
    have hxx : d = _ := (Prod.mk.inj hx).1
    have hw := bulk_len ((List.range len).map D)
    rw [hxx]
    simp only [Rows.uptoBulk, List.length_map, List.length_range] at hw ⊢
    omega
end
end Go.Proofs.YtjkephmfpoekgaaDoor.PathLaw
