/- The walk of boot.Program. -/
import Derived.Test.YtgdihccmkleimaaBootImage
namespace Go.Proofs.Ytgdihccmkleimaa.BootLaw
open Go.RowKit
set_option linter.unusedVariables false
set_option linter.unusedSimpArgs false
def ProgPost (nm : ByteArray) (m : Int) (e : Nat) (ps : List Pg) (w : World) (E : Ending) (w' : World) : Prop :=
  ∃ (c : Int) (s : ByteArray) (k m' : Int) (a : Option Addr) (n cap : Nat), E = .returned (.tuple #[.agg #[.string s, .int .i64 k, .int .i64 m', .int .i64 0, .int .i64 0, .slice a n cap], .int .i64 c]) ∧ Below w.heap.size w w' ∧
    ((c ≠ 0 ∧ s = ⟨#[]⟩ ∧ n = 0) ∨ (c = 0 ∧ s = nm ∧ k = 1 ∧ m' = m ∧ Right e ps ∧ (fileR e ps).length ≤ 512 ∧ BS w' (.slice a n cap) (fileR e ps)))
theorem set6 {w w9 : World} (h : Below w.heap.size w w9) (a b c d e f : Value) : Below w.heap.size w ((((((w9.setCell ⟨w.heap.size + 1, 0, none⟩ a).setCell ⟨w.heap.size + 1, 1, none⟩ b).setCell ⟨w.heap.size + 1, 2, none⟩ c).setCell ⟨w.heap.size + 1, 3, none⟩ d).setCell ⟨w.heap.size + 1, 4, none⟩ e).setCell ⟨w.heap.size + 1, 5, none⟩ f) :=
  (((((h.setCell (Nat.le_succ _) _).setCell (Nat.le_succ _) _).setCell (Nat.le_succ _) _).setCell (Nat.le_succ _) _).setCell (Nat.le_succ _) _).setCell (Nat.le_succ _) _
set_option maxRecDepth 100000 in
set_option maxHeartbeats 1000000 in
theorem program_is {w : World} {e : Nat} {v : Value} {ps : List Pg} {nm : ByteArray} {m : Int} (he : e < 4294967296) (hby : ∀ i, i < ps.length → Byt (pAt ps i).da) (h : PgS w v ps) : Calls Try.prog 47 #[.string nm, .int .i64 m, .agg #[.int .u32 e, v]] w (ProgPost nm m e ps w) := by
  have h0 := h
  obtain ⟨a, cap, rfl, hl, hcap, hc⟩ := h0
  have hb1 := Go.Joins.below_alloc1 w (.cells #[.int .u32 e, .slice a ps.length cap] 88)
  have hb2 := hb1.alloc hb1.size (.cells #[.string ⟨#[]⟩, .int .i64 0, .int .i64 0, .int .i64 0, .int .i64 0, .slice none 0 0] 90)
  have hh := heap_alloc_new (w.alloc (.cells #[.int .u32 e, .slice a ps.length cap] 88)) (.cells #[.string ⟨#[]⟩, .int .i64 0, .int .i64 0, .int .i64 0, .int .i64 0, .slice none 0 0] 90)
  have hsz : w.heap.size + 1 < ((w.alloc (.cells #[.int .u32 e, .slice a ps.length cap] 88)).alloc (.cells #[.string ⟨#[]⟩, .int .i64 0, .int .i64 0, .int .i64 0, .int .i64 0, .slice none 0 0] 90)).heap.size := by simp
  have hfl := file_is he hby (h.keep hb2)
  have HFL := Lib.hid hfl
  have HB2 := Lib.hid hb2
  have HH := Lib.hid hh
  have HSZ := Lib.hid hsz
  clear hfl hb1 hb2 hh hsz hby h hc
  go_enter Try.func47, Try.ntmps47
  go_upto_region 2 with (go_at_call 65; refine HFL.out.mono ?_; rintro e9 w9 ⟨v9, c9, rfl, hb9, hc9⟩)
  have hB9 := HB2.out.trans (hb9.mono HB2.out.size)
  have hs9 : w.heap.size + 1 < w9.heap.size := Nat.lt_of_lt_of_le HSZ.out hb9.size
  have hh9 := (hb9.block (w.heap.size + 1) HSZ.out).trans (by have := HH.out; simp only [World.size_alloc] at this; exact this)
  have r : ∀ j u, [Value.string ⟨#[]⟩, .int .i64 0, .int .i64 0, .int .i64 0, .int .i64 0, .slice none 0 0][j]? = some u → w9.cell? ⟨w.heap.size + 1, j, none⟩ = some u := fun j u hj => by rw [cell_of_row _ _ _ _ _ _ hh9]; simpa using hj
  have r0 := r 0 _ rfl
  have r1 := r 1 _ rfl
  have r2 := r 2 _ rfl
  have r3 := r 3 _ rfl
  have r4 := r 4 _ rfl
  have r5 := r 5 _ rfl
  have f0 : ∀ j, w9.frozen? ⟨w.heap.size + 1, j, none⟩ = false := fun j => by simp only [World.frozen?, hh9]; simp
  have HB9 := Lib.hid hB9
  have HS9 := Lib.hid hs9
  clear hb9 hB9 hs9 hh9 r HH HSZ HB2 HFL
  rcases hc9 with ⟨hne, rfl, -⟩ | ⟨rfl, hR, h512, hown⟩
  · go_wp2_with fail
    exact bodyPost_ret (v := .tuple #[.agg #[.string ⟨#[]⟩, .int .i64 0, .int .i64 0, .int .i64 0, .int .i64 0, .slice none 0 0], .int .i64 c9]) (by simp [results, Try.results47, go_sem, r0, r1, r2, r3, r4, r5]) rfl ⟨c9, _, _, _, _, _, _, rfl, set6 HB9.out _ _ _ _ _ _, .inl ⟨hne, rfl, rfl⟩⟩
  · obtain ⟨va, vc, rfl⟩ := own_form hown
    have hlt : w.heap.size + 1 < ((w.alloc (.cells #[.int .u32 e, .slice a ps.length cap] 88)).alloc (.cells #[.string ⟨#[]⟩, .int .i64 0, .int .i64 0, .int .i64 0, .int .i64 0, .slice none 0 0] 90)).heap.size := by simp
    have HOWN := Lib.hid hown
    have HLT := Lib.hid hlt
    clear hown hlt
    go_wp2_with fail
    exact bodyPost_ret (v := .tuple #[.agg #[.string nm, .int .i64 1, .int .i64 m, .int .i64 0, .int .i64 0, .slice va (fileR e ps).length vc], .int .i64 0]) (by simp [results, Try.results47, go_sem, r0, r1, r2, r3, r4, r5]) rfl ⟨0, _, _, _, _, _, _, rfl, set6 HB9.out _ _ _ _ _ _, .inr ⟨rfl, rfl, rfl, rfl, hR, h512, bs_own (owns_set (owns_set (owns_set (owns_set (owns_set (owns_set HOWN.out HLT.out) HLT.out) HLT.out) HLT.out) HLT.out) HLT.out)⟩⟩
end Go.Proofs.Ytgdihccmkleimaa.BootLaw
