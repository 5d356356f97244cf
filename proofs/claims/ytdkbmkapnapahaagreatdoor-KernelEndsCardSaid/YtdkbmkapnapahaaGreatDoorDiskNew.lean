/- Byte slices of a call's own: appends as equations on the operation's run. The walk of disk.New. -/
import Derived.Test.YtdkbmkapnapahaaGreatDoorDisk3
import Derived.Lib.BufferWrite
namespace Go.Proofs.YtdkbmkapnapahaaGreatDoor
open Go.RowKit
set_option linter.unusedVariables false
set_option linter.unusedSimpArgs false
def appB := Builtin.append_ #[31, 31] 31
theorem appB_eq : Builtin.append_ #[31, 31] 31 = appB := rfl
/-- bytes that a call owns -/
def OB (B : Nat) (w : World) (v : Value) (l : List Int) : Prop := w.ownsRow B 5 1 v l.length (l.map u8V)
section
variable {B : Nat} {w w' : World} {v : Value} {l : List Int}
theorem OB.nil (B : Nat) (w : World) : OB B w (.slice none 0 0) [] := World.ownsRow_nil _ _ _ _
theorem OB.keep (h : OB B w v l) (hb : Below w.heap.size w w') : OB B w' v l := owns_keep h hb
theorem OB.upd {S : Nat → Prop} (h : OB B w v l) (hu : Upd S w w') (hn : ∀ g, v.ownBlock = some g → ¬ S g) : OB B w' v l := hu.owns h hn
theorem OB.base {B' : Nat} (h : OB B w v l) (hB : B' ≤ B) : OB B' w v l := owns_base h hB
theorem OB.at (h : OB B w v l) : At (Value.int .u8) 0 w v l := at_of_owned h
theorem OB.form (h : OB B w v l) : ∃ p cap, v = .slice p l.length cap := own_form h
theorem OB.drew (h : OB B w v l) : OB B w.drew v l := h.keep (Below.refl _ _).drew
theorem OB.drewN (h : OB B w v l) (n : Nat) : OB B (w.drewN n) v l := h.keep (below_drewN (Below.refl _ _) n)
theorem OB.far (h : OB B w v l) {b : Nat} (hb : b < B) : v.ownBlock ≠ some b := far_row h hb
/-- some bytes behind them -/
theorem OB.app (h : OB B w v l) (hB : B ≤ w.heap.size) {a : Addr} {c : Nat} {news : List Int} (hn : ∀ j u, (news.map u8V)[j]? = some u → w.cell? (a.add j) = some u) (h64 : l.length + news.length ≤ 1000000) :
    ∃ p c' w', (appB #[v, .slice (some a) news.length c]).run Tryz.prog w = .ok (.slice p (l.length + news.length) c') w' ∧ OB B w' (.slice p (l.length + news.length) c') (l ++ news) ∧ w.grownBy w' v.ownBlock ∧ Below B w w' := by
  obtain ⟨i0, hi, hz0, hz1, hz2⟩ := info_parts info5
  obtain ⟨v', w', hr, ho, hg, -⟩ := run_append_fresh (P := Tryz.prog) w B 31 31 5 i0 (.int .u8 0) 1 1 Tryz.underlying31 hi hz0 hz1 hz2 rfl (by decide) v l.length (l.map u8V) h a news.length c (news.map u8V) (by simp) hn (u8V_one news) (by unfold maxLen; omega) (by omega) hB
  obtain ⟨p, c', rfl⟩ := own_form ho
  refine ⟨p, c', w', hr, ?_, hg, ?_⟩
  · unfold OB
    rw [List.length_append, List.map_append]
    exact ho
  · exact (Below.refl B w).grown hg hB (fun g hgg => (h.lt g hgg).1)
/-- one byte behind them -/
theorem OB.push (h : OB B w v l) (hB : B ≤ w.heap.size) (x : Int) (h64 : l.length < 1000000) :
    ∃ p c' w', (appB #[v, .slice (some ⟨w.heap.size, 0, none⟩) 1 1]).run Tryz.prog (w.alloc (.cells #[.int .u8 x] 5)) = .ok (.slice p (l.length + 1) c') w' ∧ OB B w' (.slice p (l.length + 1) c') (l ++ [x]) ∧ (w.alloc (.cells #[.int .u8 x] 5)).grownBy w' v.ownBlock ∧ Below B w w' := by
  have hal := (Below.refl B w).alloc hB (.cells #[.int .u8 x] 5)
  obtain ⟨p, c', w', hr, ho, hg, hb⟩ := (h.keep (Go.Joins.below_alloc1 w (.cells #[.int .u8 x] 5))).app (a := ⟨w.heap.size, 0, none⟩) (c := 1) (news := [x]) (Nat.le_trans hB hal.size) (cells1_new w (.int .u8 x) 5) (by simp; omega)
  exact ⟨p, c', w', hr, ho, hg, hal.trans hb⟩
/-- a block of bytes is one's own -/
theorem ob_of_bk {g c : Nat} (h : BK w g l) (hB : B ≤ g) (hl : l.length ≤ 1000000) (hc : c = l.length) : OB B w (.slice (some ⟨g, 0, none⟩) l.length c) l := by
  subst hc
  refine ⟨by simp, .inr ⟨g, l.length, (l.map u8V).toArray, rfl, hB, h, Nat.le_refl _, by unfold maxLen; omega, by simp, ?_⟩⟩
  rw [Nat.mul_one, List.take_of_length_le (by simp)]
theorem BK.setCell {g : Nat} (h : BK w g l) (i : Nat) (x : Int) : w.setCell ⟨g, i, none⟩ (.int .u8 x) = w.setRow g ((l.set i x).map u8V).toArray := by
  rw [setCell_eq_setRow w g i _ 5 (0, 0) _ h]
  congr 1
  simp [List.map_set]
end
def mkB (a b : Value) : Sem Value := Instr.makeSlice 31 a b
theorem mkB_eq (a b : Value) : Instr.makeSlice 31 a b = mkB a b := rfl
def zeros (n : Nat) : List Int := List.replicate n 0
theorem zeros_len (n : Nat) : (zeros n).length = n := by simp [zeros]
theorem mkB_run (w : World) (n : Nat) (hn : n ≤ 1000000) : (mkB (.int .i64 (n : Int)) (.int .i64 (n : Int))).run Tryz.prog w = .ok (.slice (some ⟨w.heap.size, 0, none⟩) n n) (w.alloc (.cells ((zeros n).map u8V).toArray 5)) := by
  obtain ⟨i, hi, hz, hs, hb⟩ := info_parts info5
  have := run_makeSlice (P := Tryz.prog) w 31 5 i (.int .u8 0) Tryz.underlying31 hi hz .i64 .i64 (n : Int) (n : Int) (by omega) (Int.le_refl _) (by rw [hs]; simp; omega) (by rw [hb]; simp; omega) (by omega)
  unfold mkB
  rw [this, hs]
  have e : madeCells (Value.cells (.int .u8 0)) ((n : Int).toNat * 1) = ((zeros n).map u8V).toArray := by
    apply Array.ext
    · simp [size_madeCells, zeros]
    · intro j h1 h2
      simp [madeCells, zeros, Value.cells, Nat.mod_one]
  rw [e]
  simp
theorem mkB64 (w : World) : (mkB (.int .i64 64) (.int .i64 64)).run Tryz.prog w = .ok (.slice (some ⟨w.heap.size, 0, none⟩) 64 64) (w.alloc (.cells ((zeros 64).map u8V).toArray 5)) := mkB_run w 64 (by decide)
theorem mkB32 (w : World) : (mkB (.int .i64 32) (.int .i64 32)).run Tryz.prog w = .ok (.slice (some ⟨w.heap.size, 0, none⟩) 32 32) (w.alloc (.cells ((zeros 32).map u8V).toArray 5)) := mkB_run w 32 (by decide)
theorem mkB16 (w : World) : (mkB (.int .i64 16) (.int .i64 16)).run Tryz.prog w = .ok (.slice (some ⟨w.heap.size, 0, none⟩) 16 16) (w.alloc (.cells ((zeros 16).map u8V).toArray 5)) := mkB_run w 16 (by decide)
def copyS := Builtin.copy_ #[31, 9] 3
theorem copyS_eq : Builtin.copy_ #[31, 9] 3 = copyS := rfl
/-- a string is copied to the head of a block -/
theorem run_copyS {w : World} {g dC : Nat} {cur news : List Int} {s : ByteArray} (hg : BK w g cur) (hs : Lib.byteCells s.data.toList = news.map u8V) (hz : s.size = news.length) (hle : news.length ≤ cur.length) :
    (copyS #[.slice (some ⟨g, 0, none⟩) cur.length dC, .string s]).run Tryz.prog w = .ok (.int .i64 news.length) (w.setRow g ((splice cur 0 news).map u8V).toArray) := by
  have h := Lib.run_copy_row_string (P := Tryz.prog) w 31 9 3 5 g 0 cur.length dC s (cur.map u8V).toArray 5 Tryz.underlying31 (by kernel_rfl) hg (by omega) (by simp; omega)
  rw [← copyS_eq, h, hs, hz]
  simp [goInt, splice, List.map_drop]
end Go.Proofs.YtdkbmkapnapahaaGreatDoor
namespace Go.Proofs.YtdkbmkapnapahaaGreatDoor
open Go.RowKit
set_option linter.unusedVariables false
set_option linter.unusedSimpArgs false
attribute [local go_sem ↓] mkB_eq
theorem size_alloc1 (w : World) (o : Obj) : (w.alloc o).heap.size = w.heap.size + 1 := by simp
theorem dk_new {w : World} {D sb nb S : Nat} {l : List Int} (hD : w.heap[D]? = some (.cells #[.slice (some ⟨sb, 0, none⟩) (S * 64) (S * 64), .slice (some ⟨nb, 0, none⟩) (S * 64) (S * 64), .slice none 0 0, .int .i64 (-1)] 123 (0, 0))) (hs : BK w sb l) (hn : BK w nb l) (hl : l.length = S * 64) (h1 : D ≠ sb) (h2 : D ≠ nb) (h3 : sb ≠ nb) (hS0 : 1 ≤ S) (hS : S ≤ 256) : Dk w D sb nb (.slice none 0 0) 0 S l l :=
  ⟨by rw [cell_of_row w D 0 _ _ (0, 0) hD]; rfl, by rw [cell_of_row w D 1 _ _ (0, 0) hD]; rfl, by rw [cell_of_row w D 2 _ _ (0, 0) hD]; rfl, by rw [cell_of_row w D 3 _ _ (0, 0) hD]; rfl, fun j => by simp [World.frozen?, hD], (Array.getElem?_eq_some_iff.1 hD).1, hs, hn, hl, hl, ⟨[], World.ownsRow_nil _ _ _ _⟩, h1, h2, h3, by simp [Value.ownBlock], by simp [Value.ownBlock], by simp [Value.ownBlock], hS0, hS⟩
theorem Dk.drew0 {w : World} {D sb nb m S : Nat} {wv : Value} {s f : List Int} (h : Dk w D sb nb wv m S s f) : Dk w.drew D sb nb wv m S s f := h.keep (Below.refl _ _).drew
theorem dn_blocks (w : World) (Z : Array Value) (hZ : Z = ((zeros 16384).map u8V).toArray) (sb nb : Nat) (h : (sb = w.heap.size ∧ nb = w.heap.size + 1) ∨ (sb = w.heap.size + 1 ∧ nb = w.heap.size)) :
    Dk (((w.alloc (.cells Z 5)).alloc (.cells Z 5)).alloc (.cells #[.slice (some ⟨sb, 0, none⟩) 16384 16384, .slice (some ⟨nb, 0, none⟩) 16384 16384, .slice none 0 0, .int .i64 (-1)] 123)) (w.heap.size + 1 + 1) sb nb (.slice none 0 0) 0 256 (zeros 16384) (zeros 16384) ∧
    Below w.heap.size w (((w.alloc (.cells Z 5)).alloc (.cells Z 5)).alloc (.cells #[.slice (some ⟨sb, 0, none⟩) 16384 16384, .slice (some ⟨nb, 0, none⟩) 16384 16384, .slice none 0 0, .int .i64 (-1)] 123)) := by
  subst hZ
  have k0 : BK (((w.alloc (.cells ((zeros 16384).map u8V).toArray 5)).alloc (.cells ((zeros 16384).map u8V).toArray 5)).alloc (.cells #[.slice (some ⟨sb, 0, none⟩) 16384 16384, .slice (some ⟨nb, 0, none⟩) 16384 16384, .slice none 0 0, .int .i64 (-1)] 123)) w.heap.size (zeros 16384) :=
    ((bk_new w _).keep (Go.Joins.below_alloc1 _ _)).keep (Go.Joins.below_alloc1 _ _)
  have k1 : BK (((w.alloc (.cells ((zeros 16384).map u8V).toArray 5)).alloc (.cells ((zeros 16384).map u8V).toArray 5)).alloc (.cells #[.slice (some ⟨sb, 0, none⟩) 16384 16384, .slice (some ⟨nb, 0, none⟩) 16384 16384, .slice none 0 0, .int .i64 (-1)] 123)) (w.heap.size + 1) (zeros 16384) := by
    have := (bk_new (w.alloc (.cells ((zeros 16384).map u8V).toArray 5)) (zeros 16384)).keep (Go.Joins.below_alloc1 _ (.cells #[.slice (some ⟨sb, 0, none⟩) 16384 16384, .slice (some ⟨nb, 0, none⟩) 16384 16384, .slice none 0 0, .int .i64 (-1)] 123))
    rwa [size_alloc1] at this
  have kD := heap_alloc_new ((w.alloc (.cells ((zeros 16384).map u8V).toArray 5)).alloc (.cells ((zeros 16384).map u8V).toArray 5)) (.cells #[.slice (some ⟨sb, 0, none⟩) 16384 16384, .slice (some ⟨nb, 0, none⟩) 16384 16384, .slice none 0 0, .int .i64 (-1)] 123)
  rw [size_alloc1, size_alloc1] at kD
  have hb : Below w.heap.size w (((w.alloc (.cells ((zeros 16384).map u8V).toArray 5)).alloc (.cells ((zeros 16384).map u8V).toArray 5)).alloc (.cells #[.slice (some ⟨sb, 0, none⟩) 16384 16384, .slice (some ⟨nb, 0, none⟩) 16384 16384, .slice none 0 0, .int .i64 (-1)] 123)) :=
    (((Below.refl _ _).alloc (Nat.le_refl _) _).alloc (by rw [size_alloc1]; omega) _).alloc (by rw [size_alloc1, size_alloc1]; omega) _
  refine ⟨?_, hb⟩
  rcases h with ⟨rfl, rfl⟩ | ⟨rfl, rfl⟩
  · exact dk_new (S := 256) kD k0 k1 (zeros_len _) (by omega) (by omega) (by omega) (by decide) (by decide)
  · exact dk_new (S := 256) kD k1 k0 (zeros_len _) (by omega) (by omega) (by omega) (by decide) (by decide)
set_option maxRecDepth 100000 in
set_option maxHeartbeats 400000 in
theorem dnew_is (w : World) : Calls Tryz.prog 25 #[.int .i64 256] w fun e w' => ∃ D sb nb, e = .returned (.tuple #[.pointer (some ⟨D, 0, none⟩), .int .i64 0]) ∧ Dk w' D sb nb (.slice none 0 0) 0 256 (zeros 16384) (zeros 16384) ∧ w.heap.size ≤ D ∧ w.heap.size ≤ sb ∧ w.heap.size ≤ nb ∧ Below w.heap.size w w' := by
  have hmk : ∀ w : World, (mkB (.int .i64 16384) (.int .i64 16384)).run Tryz.prog w = .ok (.slice (some ⟨w.heap.size, 0, none⟩) 16384 16384) (w.alloc (.cells ((zeros 16384).map u8V).toArray 5)) := fun w => mkB_run w 16384 (by decide)
  obtain ⟨Z, hZ⟩ : ∃ Z, Z = ((zeros 16384).map u8V).toArray := ⟨_, rfl⟩
  rw [← hZ] at hmk
  have HZ := Lib.hid hZ
  clear hZ
  go_enter Tryz.func25, Tryz.ntmps25
  go_upto_region 4 with fail
  go_region
  · have HA := Lib.hid (dn_blocks w Z HZ.out (w.heap.size) (w.heap.size + 1) (.inl ⟨rfl, rfl⟩))
    clear hmk HZ
    go_wp2_with fail
    go_ret2
    exact ⟨_, _, _, rfl, HA.out.1.drew0, by omega, by omega, by omega, HA.out.2.drew⟩
  · have HA := Lib.hid (dn_blocks w Z HZ.out (w.heap.size + 1) (w.heap.size) (.inr ⟨rfl, rfl⟩))
    clear hmk HZ
    go_wp2_with fail
    go_ret2
    exact ⟨_, _, _, rfl, HA.out.1.drew0, by omega, by omega, by omega, HA.out.2.drew⟩
end Go.Proofs.YtdkbmkapnapahaaGreatDoor
