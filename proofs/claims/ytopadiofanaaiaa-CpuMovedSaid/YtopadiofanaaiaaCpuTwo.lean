/- Two rooms over the same bytes, two rows of registers, two traps. -/
import Derived.Test.YtopadiofanaaiaaCpuWords
import Derived.Test.YtopadiofanaaiaaCpuMovedPlain
namespace Go.Proofs.Ytopadiofanaaiaa.CpuLaw
open Go.RowKit
set_option linter.unusedVariables false
set_option linter.unusedSimpArgs false
/-- where the bytes of an owned slice lie: rooms over them -/
theorem room_at {w : World} {B B0 : Nat} {v : Value} {l : List Int} (hl : l.length < 9223372036854775808) (hB : ∀ x ∈ l, 0 ≤ x ∧ x ≤ 255) (hown : w.ownsRow B0 5 1 v l.length (l.map u8V)) (hB0 : B ≤ B0) (hd : l = [] → ∃ d, d < w.heap.size ∧ B ≤ d) :
    ∃ c, B ≤ c ∧ c < w.heap.size ∧ ∀ (w3 : World) (b A : Nat) (may : Int), A < 4294967296 → b < w3.heap.size → b ≠ c → (∀ k, k < w.heap.size → w3.heap[k]? = w.heap[k]?) → w.heap.size ≤ w3.heap.size → w3.cell? ⟨b, 0, none⟩ = some (.int .u32 A) → w3.cell? ⟨b, 1, none⟩ = some v → w3.cell? ⟨b, 2, none⟩ = some (.int .i64 may) → Room w3 b c ⟨A, l.length, bytesF l, may⟩ := by
  have hf : ∀ i, bytesF l i < 256 := fun i => Nat.mod_lt _ (by decide)
  rcases hown.2 with ⟨rfl, hn⟩ | ⟨g, cap', cur, rfl, hb, hg, hnc, hcm, hcs, htake⟩
  · obtain ⟨d, hd1, hd2⟩ := hd (List.eq_nil_of_length_eq_zero hn)
    refine ⟨d, hd2, hd1, fun w3 b A may hA hbl hne hk hsz c0 c1 c2 => ⟨hbl, by omega, hne, fun i hi => ?_, hA, hl, hf, c0, ⟨none, 0, by rw [hn]; exact c1, fun h => ?_⟩, c2, fun i hi => ?_⟩⟩
    · have hi : i < l.length := hi
      omega
    · have h : 0 < l.length := h
      omega
    · have hi : i < l.length := hi
      omega
  · have hgl : g < w.heap.size := (Array.getElem?_eq_some_iff.1 hg).1
    refine ⟨g, by omega, hgl, fun w3 b A may hA hbl hne hk hsz c0 c1 c2 => ?_⟩
    have hg3 := (hk g hgl).trans hg
    refine ⟨hbl, by omega, hne, fun i hi => by simp [World.frozen?, hg3], hA, hl, hf, c0, ⟨_, cap', c1, fun _ => rfl⟩, c2, fun i hi => ?_⟩
    have hi : i < l.length := hi
    have h3 : w3.cell? ⟨g, i, none⟩ = w.cell? ⟨g, i, none⟩ := World.cell?_of_block (w := w) (hk g hgl)
    have h4 := hown.cellAt i (by simpa using hi)
    rw [h3, h4]
    have := hB (l.getD i 0) (by rw [List.getD_eq_getElem?_getD, List.getElem?_eq_getElem hi]; exact List.getElem_mem hi)
    have e : (bytesF l i : Int) = l.getD i 0 := by unfold bytesF; omega
    rw [e]
    simp [List.getD, hi]
/-- a room whose bytes another room shares -/
theorem Room.share {w w1 : World} {n b c : Nat} {A A' k : Nat} {f : Nat → Nat} {may : Int} (h : Room w b c ⟨A', k, f, may⟩) (hq : Room w1 n c ⟨A, k, f, may⟩) (ho : Off c w w1) : Room w1 b c ⟨A', k, f, may⟩ := by
  obtain ⟨pt, cap, h1, hp⟩ := h.c1
  exact ⟨Nat.lt_of_lt_of_le h.bl ho.size, hq.cl, h.ne, hq.fz, h.al, h.nl, h.fl, (ho.cell (p := ⟨b, 0, none⟩) h.bl h.ne).trans h.c0, ⟨pt, cap, (ho.cell (p := ⟨b, 1, none⟩) h.bl h.ne).trans h1, hp⟩, (ho.cell (p := ⟨b, 2, none⟩) h.bl h.ne).trans h.c2, hq.d⟩
/-- two processors -/
structure Two0 (w wr : World) (n c p k : Nat) (f : Nat → Nat) (g g' : G) : Prop where
  R : Row wr (n + 2) g
  R' : Row wr (n + 3) g'
  Q : Room wr n c (mA 0 k f)
  Q' : Room wr (n + 1) c (mA p k f)
  B : Below w.heap.size w wr
  hc1 : w.heap.size ≤ c
  hc2 : c < n
structure Two (w wr : World) (n c p k : Nat) (f : Nat → Nat) (g g' : G) (d : Nat) (t : Int) (a : Nat) (t' : Int) (a' : Nat) : Prop where
  Z : Two0 w wr n c p k f g g'
  T : Slot d t a wr
  T' : Slot (d + 1) t' a' wr
  hd : n + 3 < d
section
variable {w wr w1 : World} {n c p k : Nat} {f : Nat → Nat} {g g' : G} {d : Nat} {t : Int} {a : Nat} {t' : Int} {a' : Nat}
theorem Two0.keep (h : Two0 w wr n c p k f g g') (hb : Below wr.heap.size wr w1) : Two0 w w1 n c p k f g g' := ⟨h.R.keep hb, h.R'.keep hb, h.Q.keep hb, h.Q'.keep hb, h.B.trans (hb.mono h.B.size), h.hc1, h.hc2⟩
theorem two_new (h : Two0 w wr n c p k f g g') : Two w ((wr.alloc (.cells #[.int .i64 0, .int .u32 0] 63)).alloc (.cells #[.int .i64 0, .int .u32 0] 63)) n c p k f g g' wr.heap.size 0 0 0 0 := by
  have s1 := slot_new wr
  have s2 := slot_new (wr.alloc (.cells #[.int .i64 0, .int .u32 0] 63))
  have hb := Go.Joins.below_alloc1 (wr.alloc (.cells #[.int .i64 0, .int .u32 0] 63)) (.cells #[.int .i64 0, .int .u32 0] 63)
  simp only [World.size_alloc] at s2 hb
  have hl := h.R'.lt
  exact ⟨h.keep (Go.Joins.below_alloc2 _ _ _), s1.keep (c := wr.heap.size + 1) (.ofB (by simp) hb) (by omega), s2, hl⟩
theorem Two.call1 (h : Two w wr n c p k f g g' d t a t' a') (ho : Off c wr w1) (hq : Room w1 n c (mA 0 k f)) : Two w w1 n c p k f g g' d t a t' a' := by
  have := h.Z.hc2; have := h.hd
  exact ⟨⟨h.Z.R.keepO ho (by omega), h.Z.R'.keepO ho (by omega), hq, Room.share h.Z.Q' hq ho, h.Z.B.trans (ho.low _ h.Z.hc1 h.Z.B.size), h.Z.hc1, h.Z.hc2⟩, h.T.keep ho (by omega), h.T'.keep ho (by omega), h.hd⟩
theorem Two.call2 (h : Two w wr n c p k f g g' d t a t' a') (ho : Off c wr w1) (hq : Room w1 (n + 1) c (mA p k f)) : Two w w1 n c p k f g g' d t a t' a' := by
  have := h.Z.hc2; have := h.hd
  exact ⟨⟨h.Z.R.keepO ho (by omega), h.Z.R'.keepO ho (by omega), Room.share h.Z.Q hq ho, hq, h.Z.B.trans (ho.low _ h.Z.hc1 h.Z.B.size), h.Z.hc1, h.Z.hc2⟩, h.T.keep ho (by omega), h.T'.keep ho (by omega), h.hd⟩
theorem Two.set1 (h : Two w wr n c p k f g g' d t a t' a') (g2 : G) : Two w (wr.setRow (n + 2) (cellsA g2)) n c p k f g2 g' d t a t' a' := by
  have := h.Z.hc2; have := h.hd; have := h.Z.hc1
  exact ⟨⟨h.Z.R.setRow g2, h.Z.R'.setRowO (by omega) _, h.Z.Q.keepO (Off.setRow _ _ _) (by omega) (by omega), h.Z.Q'.keepO (Off.setRow _ _ _) (by omega) (by omega), below_setRow h.Z.B (by omega) _, h.Z.hc1, h.Z.hc2⟩, h.T.setRowO (by omega) _, h.T'.setRowO (by omega) _, h.hd⟩
theorem Two.set2 (h : Two w wr n c p k f g g' d t a t' a') (g2 : G) : Two w (wr.setRow (n + 3) (cellsA g2)) n c p k f g g2 d t a t' a' := by
  have := h.Z.hc2; have := h.hd; have := h.Z.hc1
  exact ⟨⟨h.Z.R.setRowO (by omega) _, h.Z.R'.setRow g2, h.Z.Q.keepO (Off.setRow _ _ _) (by omega) (by omega), h.Z.Q'.keepO (Off.setRow _ _ _) (by omega) (by omega), below_setRow h.Z.B (by omega) _, h.Z.hc1, h.Z.hc2⟩, h.T.setRowO (by omega) _, h.T'.setRowO (by omega) _, h.hd⟩
theorem Two0.other (h : Two0 w wr n c p k f g g') {e i : Nat} (he : n + 3 < e) (v : Value) : Two0 w (wr.setCell ⟨e, i, none⟩ v) n c p k f g g' := by
  have := h.hc2; have := h.hc1
  exact ⟨h.R.setO (by omega) _, h.R'.setO (by omega) _, h.Q.other (by omega) (by omega), h.Q'.other (by omega) (by omega), h.B.setCell (by show _ ≤ e; omega) _, h.hc1, h.hc2⟩
theorem Two.out1 (h : Two w wr n c p k f g g' d t a t' a') (t2 : Int) (a2 : Nat) : Two w ((wr.setCell ⟨d, 0, none⟩ (.int .i64 t2)).setCell ⟨d, 1, none⟩ (.int .u32 a2)) n c p k f g g' d t2 a2 t' a' := by
  have := h.hd
  exact ⟨(h.Z.other h.hd _).other h.hd _, h.T.set2 t2 a2, (h.T'.setO (by omega) _).setO (by omega) _, h.hd⟩
theorem Two.out2 (h : Two w wr n c p k f g g' d t a t' a') (t2 : Int) (a2 : Nat) : Two w ((wr.setCell ⟨d + 1, 0, none⟩ (.int .i64 t2)).setCell ⟨d + 1, 1, none⟩ (.int .u32 a2)) n c p k f g g' d t a t2 a2 := by
  have := h.hd
  exact ⟨(h.Z.other (by omega) _).other (by omega) _, (h.T.setO (by omega) _).setO (by omega) _, h.T'.set2 t2 a2, h.hd⟩
end
def load59 (v : Value) : Sem Value := Instr.loadAt 59 v
theorem load59_eq (v : Value) : Instr.loadAt 59 v = load59 v := rfl
set_option maxHeartbeats 400000 in
theorem Row.load59 {w : World} {b : Nat} {g : G} (h : Row w b g) : (CpuLaw.load59 (.pointer (some ⟨b, 0, none⟩))).run Try.prog w = .ok (.agg (regsA g)) w := by
  have c0 := h.cr (k := 0) (by decide)
  have c1 := h.cr (k := 1) (by decide)
  have c2 := h.cr (k := 2) (by decide)
  have c3 := h.cr (k := 3) (by decide)
  have c4 := h.cr (k := 4) (by decide)
  have c5 := h.cr (k := 5) (by decide)
  have c6 := h.cr (k := 6) (by decide)
  have c7 := h.cr (k := 7) (by decide)
  unfold CpuLaw.load59 regsA
  simp [go_sem, c0, c1, c2, c3, c4, c5, c6, c7]
theorem sub_by {a p : Nat} (h : (a : Int) - (a : Int) % 4 = (p : Int)) (hp : p < 4294967296) (w : World) : (sub33 (.int .u32 a) (.int .u32 ((a : Int) % 4))).run Try.prog w = .ok (.int .u32 p) w := by
  have e : IntKind.u32.wrap ((a : Int) - (a : Int) % 4) = p := by rw [IntKind.wrap_u32]; omega
  unfold sub33
  simp [go_sem, e]
theorem sub_pc {a b p : Nat} (h : b = up a p) (ha : a < 4294967296) (hp : p < 4294967296) (w : World) : (sub33 (.int .u32 b) (.int .u32 a)).run Try.prog w = .ok (.int .u32 p) w := sub_u32 (by unfold up at h; omega) w
end Go.Proofs.Ytopadiofanaaiaa.CpuLaw
