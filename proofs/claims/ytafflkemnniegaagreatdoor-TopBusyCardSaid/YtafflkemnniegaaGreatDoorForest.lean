/- The walks of package open: free and Open. Byte slices of a call's own: appends as equations on the operation's run. The walk of disk.New. The forest of trees of nodes: its cells; the walk of bits.With. -/
import Derived.Test.YtafflkemnniegaaGreatDoorOpenClose
import Derived.Test.YtafflkemnniegaaGreatDoorSprF
import Derived.Lib.BufferWrite
import Derived.Test.YtafflkemnniegaaGreatDoorBegin
import Derived.Test.YtafflkemnniegaaGreatDoorProcWalk
namespace Go.Proofs.YtafflkemnniegaaGreatDoor.OpenLaw
set_option linter.unusedSimpArgs false
open Go.RowKit
set_option linter.unusedVariables false

abbrev row8 (r : Nat → Nat) : Value := .agg #[.int .i64 (r 0), .int .i64 (r 1), .int .i64 (r 2), .int .i64 (r 3), .int .i64 (r 4), .int .i64 (r 5), .int .i64 (r 6), .int .i64 (r 7)]
theorem row_at0 (r : Nat → Nat) (w : World) : (Instr.index 212 (row8 r) (.int .i64 0)).run Tryz.prog w = .ok (.int .i64 (r 0)) w := by kernel_rfl
theorem row_at1 (r : Nat → Nat) (w : World) : (Instr.index 212 (row8 r) (.int .i64 1)).run Tryz.prog w = .ok (.int .i64 (r 1)) w := by kernel_rfl
theorem row_at2 (r : Nat → Nat) (w : World) : (Instr.index 212 (row8 r) (.int .i64 2)).run Tryz.prog w = .ok (.int .i64 (r 2)) w := by kernel_rfl
theorem row_at3 (r : Nat → Nat) (w : World) : (Instr.index 212 (row8 r) (.int .i64 3)).run Tryz.prog w = .ok (.int .i64 (r 3)) w := by kernel_rfl
theorem row_at4 (r : Nat → Nat) (w : World) : (Instr.index 212 (row8 r) (.int .i64 4)).run Tryz.prog w = .ok (.int .i64 (r 4)) w := by kernel_rfl
theorem row_at5 (r : Nat → Nat) (w : World) : (Instr.index 212 (row8 r) (.int .i64 5)).run Tryz.prog w = .ok (.int .i64 (r 5)) w := by kernel_rfl
theorem row_at6 (r : Nat → Nat) (w : World) : (Instr.index 212 (row8 r) (.int .i64 6)).run Tryz.prog w = .ok (.int .i64 (r 6)) w := by kernel_rfl
theorem row_at7 (r : Nat → Nat) (w : World) : (Instr.index 212 (row8 r) (.int .i64 7)).run Tryz.prog w = .ok (.int .i64 (r 7)) w := by kernel_rfl
theorem row_at (r : Nat → Nat) (k : Nat) (hk : k < 8) (w : World) : (Instr.index 212 (row8 r) (.int .i64 k)).run Tryz.prog w = .ok (.int .i64 (r k)) w := by
  match k, hk with
  | 0, _ => exact row_at0 r w
  | 1, _ => exact row_at1 r w
  | 2, _ => exact row_at2 r w
  | 3, _ => exact row_at3 r w
  | 4, _ => exact row_at4 r w
  | 5, _ => exact row_at5 r w
  | 6, _ => exact row_at6 r w
  | 7, _ => exact row_at7 r w
  | k + 8, h => omega
def FreePost (r : Nat → Nat) (w : World) (e : Ending) (w' : World) : Prop :=
  w = w' ∧ ((∃ j, j < 8 ∧ r j = 0 ∧ (∀ i, i < j → r i ≠ 0) ∧ e = .returned (.int .i64 j)) ∨ ((∀ i, i < 8 → r i ≠ 0) ∧ e = .returned (.int .i64 (-1))))
set_option maxRecDepth 100000 in
set_option maxHeartbeats 400000 in
theorem free_is {w : World} {b p : Nat} {fs : Nat → F} {fd : Nat → Nat} (h : OTab w b fs fd) (hp : p < 17) (r : Nat → Nat) (hr : ∀ i, r i = fd (p * 8 + i)) : Calls Tryz.prog 265 #[.pointer (some ⟨b, 0, none⟩), .int .i64 p] w (FreePost r w) := by
  have d0 : w.cell? ⟨b, 192 + p * 8, none⟩ = some (.int .i64 (r 0)) := by rw [hr]; exact h.d p 0 hp (by omega)
  have d1 : w.cell? ⟨b, 192 + p * 8 + 1, none⟩ = some (.int .i64 (r 1)) := by rw [hr]; exact h.d p 1 hp (by omega)
  have d2 : w.cell? ⟨b, 192 + p * 8 + 2, none⟩ = some (.int .i64 (r 2)) := by rw [hr]; exact h.d p 2 hp (by omega)
  have d3 : w.cell? ⟨b, 192 + p * 8 + 3, none⟩ = some (.int .i64 (r 3)) := by rw [hr]; exact h.d p 3 hp (by omega)
  have d4 : w.cell? ⟨b, 192 + p * 8 + 4, none⟩ = some (.int .i64 (r 4)) := by rw [hr]; exact h.d p 4 hp (by omega)
  have d5 : w.cell? ⟨b, 192 + p * 8 + 5, none⟩ = some (.int .i64 (r 5)) := by rw [hr]; exact h.d p 5 hp (by omega)
  have d6 : w.cell? ⟨b, 192 + p * 8 + 6, none⟩ = some (.int .i64 (r 6)) := by rw [hr]; exact h.d p 6 hp (by omega)
  have d7 : w.cell? ⟨b, 192 + p * 8 + 7, none⟩ = some (.int .i64 (r 7)) := by rw [hr]; exact h.d p 7 hp (by omega)
  have hpi : (p : Int) < 17 := by omega
  clear h hr hp
  go_enter Tryz.func265, Tryz.ntmps265
  go_wp2
  go_loop [5, 6, 13] (fun u v i => ∃ k : Nat, k ≤ 8 ∧ i = .int .i64 k ∧ Hid (∀ j, j < k → r j ≠ 0)) (fun _ _ i => 8 - (intOf i).toNat)
  case atStart => exact ⟨0, by omega, rfl, fun j hj => absurd hj (by omega)⟩
  case round =>
    obtain ⟨k, hk8, rfl, HK⟩ := hrel
    by_cases hlt : k < 8
    · have hki : (k : Int) < 8 := by omega
      have hix := row_at r k hlt w
      have HX := Lib.hid hlt
      by_cases hz : r k = 0
      · have hz' : ((r k : Int) == 0) = true := by simp [hz]
        have HZ := Lib.hid hz
        clear hz
        go_wp2
        go_ret
        exact ⟨rfl, .inl ⟨k, HX.out, HZ.out, HK.out, rfl⟩⟩
      · have hz' : ((r k : Int) == 0) = false := by simp; omega
        have HZ := Lib.hid hz
        clear hz
        go_wp2
        go_round
        case rel => exact ⟨k + 1, by omega, rfl, fun j hj => by
          rcases Nat.lt_succ_iff_lt_or_eq.mp hj with q | q
          · exact HK.out j q
          · rw [q]; exact HZ.out⟩
        case measure => simp [intOf]; omega
    · obtain rfl : k = 8 := by omega
      go_wp2
      go_ret
      exact ⟨rfl, .inr ⟨HK.out, rfl⟩⟩

theorem OTab.setAll {w : World} {b k : Nat} {fs : Nat → F} {fd : Nat → Nat} (h : OTab w b fs fd) (hk : k < 32) (e : F) :
    OTab ((((((w.setCell ⟨b, k * 6, none⟩ (.int .i64 e.kind)).setCell ⟨b, k * 6 + 1, none⟩ (.int .i64 e.id)).setCell ⟨b, k * 6 + 2, none⟩ (.int .i64 e.may)).setCell ⟨b, k * 6 + 3, none⟩ (.bool e.more)).setCell ⟨b, k * 6 + 4, none⟩ (.int .i64 e.pos)).setCell ⟨b, k * 6 + 5, none⟩ (.int .i64 e.n)) b (updF fs k e) fd := by
  have s0 := h.setF hk (f := 0) (by omega) (v := .int .i64 e.kind) (e := { fs k with kind := e.kind }) rfl rfl rfl rfl rfl rfl
  have s1 := s0.setF hk (f := 1) (by omega) (v := .int .i64 e.id) (e := { fs k with kind := e.kind, id := e.id }) (by rw [updF_same]; rfl) rfl (by rw [updF_same]; rfl) (by rw [updF_same]; rfl) (by rw [updF_same]; rfl) (by rw [updF_same]; rfl)
  rw [updF_twice] at s1
  have s2 := s1.setF hk (f := 2) (by omega) (v := .int .i64 e.may) (e := { fs k with kind := e.kind, id := e.id, may := e.may }) (by rw [updF_same]; rfl) (by rw [updF_same]; rfl) rfl (by rw [updF_same]; rfl) (by rw [updF_same]; rfl) (by rw [updF_same]; rfl)
  rw [updF_twice] at s2
  have s3 := s2.setF hk (f := 3) (by omega) (v := .bool e.more) (e := { fs k with kind := e.kind, id := e.id, may := e.may, more := e.more }) (by rw [updF_same]; rfl) (by rw [updF_same]; rfl) (by rw [updF_same]; rfl) rfl (by rw [updF_same]; rfl) (by rw [updF_same]; rfl)
  rw [updF_twice] at s3
  have s4 := s3.setF hk (f := 4) (by omega) (v := .int .i64 e.pos) (e := { fs k with kind := e.kind, id := e.id, may := e.may, more := e.more, pos := e.pos }) (by rw [updF_same]; rfl) (by rw [updF_same]; rfl) (by rw [updF_same]; rfl) (by rw [updF_same]; rfl) rfl (by rw [updF_same]; rfl)
  rw [updF_twice] at s4
  have s5 := s4.setF hk (f := 5) (by omega) (v := .int .i64 e.n) (e := e) (by rw [updF_same]; rfl) (by rw [updF_same]; rfl) (by rw [updF_same]; rfl) (by rw [updF_same]; rfl) (by rw [updF_same]; rfl) rfl
  rw [updF_twice] at s5
  exact s5
theorem OTab.setD1 {w : World} {b : Nat} {fs : Nat → F} {fd : Nat → Nat} (h : OTab w b fs fd) {p j : Nat} (hp : p < 17) (hj : j < 8) {k : Nat} (hk : k < 32) : OTab (w.setCell ⟨b, 192 + p * 8 + j, none⟩ (.int .i64 ((k : Int) + 1))) b fs (updN fd (p * 8 + j) (k + 1)) := h.setD hp hj (x := k + 1) hk
def OpenPost (b p : Nat) (fs : Nat → F) (fd : Nat → Nat) (t : F) (w : World) (e : Ending) (w' : World) : Prop :=
  KB b w w' ∧ ((∃ j k, j < 8 ∧ fd (p * 8 + j) = 0 ∧ (∀ i, i < j → fd (p * 8 + i) ≠ 0) ∧ k < 32 ∧ (fs k).n = 0 ∧ (∀ i, i < k → (fs i).n ≠ 0) ∧ e = .returned (.tuple #[.int .i64 j, .int .i64 0]) ∧ OTab w' b (updF fs k t) (updN fd (p * 8 + j) (k + 1)))
    ∨ ((∀ i, i < 8 → fd (p * 8 + i) ≠ 0) ∨ (∀ i, i < 32 → (fs i).n ≠ 0)) ∧ e = .returned (.tuple #[.int .i64 0, .int .i64 6]) ∧ OTab w' b fs fd)
set_option maxRecDepth 100000 in
set_option maxHeartbeats 400000 in
theorem open_is {w : World} {b p : Nat} {fs : Nat → F} {fd : Nat → Nat} {kd id may : Int} (hk1 : 1 ≤ kd) (hk3 : kd ≤ 3) (h : OTab w b fs fd) (h1 : 1 ≤ p) (h2 : p ≤ 16) (hid : 0 ≤ id) (hm : 0 ≤ may) (hm3 : may ≤ 3) :
    Calls Tryz.prog 192 #[.pointer (some ⟨b, 0, none⟩), .int .i64 p, .agg #[.int .i64 kd, .int .i64 id, .int .i64 may, .bool false, .int .i64 0]] w (OpenPost b p fs fd ⟨kd, id, may, false, 0, 1⟩ w) := by
  have HO := Lib.hid (owner_is h1 h2)
  have HH := Lib.hid (h.alloc (.cells #[.int .i64 kd, .int .i64 id, .int .i64 may, .bool false, .int .i64 0] 208))
  have hbs := Nat.ne_of_lt h.lt
  obtain ⟨r, hr⟩ : ∃ r : Nat → Nat, ∀ i, r i = fd (p * 8 + i) := ⟨fun i => fd (p * 8 + i), fun _ => rfl⟩
  have HFR := Lib.hid (free_is HH.out (show p < 17 by omega) r hr)
  have HR := Lib.hid hr
  have HP := Lib.hid (show p < 17 by omega)
  clear h h1 h2 hr
  go_enter Tryz.func192, Tryz.ntmps192
  go_wp2_with fail
  refine (HO.out _).mono ?_
  rintro e w1 ⟨rfl, rfl⟩
  go_wp2_with fail
  refine HFR.out.mono ?_
  rintro e w1 ⟨rfl, ⟨j, hj8, hj0, hjm, rfl⟩ | ⟨hn, rfl⟩⟩
  · have HJ := Lib.hid (And.intro hj8 (And.intro hj0 hjm))
    have hji : (j : Int) < 8 := by omega
    have hpi : (p : Int) < 17 := by have := HP.out; omega
    clear hj8 hj0 hjm
    go_wp2_with fail
    go_loop [9, 48] (fun u i => ∃ k : Nat, k ≤ 32 ∧ i = .int .i64 k ∧ Hid (∀ j, j < k → (fs j).n ≠ 0)) (fun _ i => 32 - (intOf i).toNat)
    case atStart => exact ⟨0, by omega, rfl, fun j hj => absurd hj (by omega)⟩
    case round =>
      obtain ⟨k, hk, rfl, HK⟩ := hrel
      by_cases hlt : k < 32
      · have hki : (k : Int) < 32 := by omega
        have HX := Lib.hid hlt
        have c5 := HH.out.c5 k hlt
        by_cases hz : (fs k).n = 0
        · have HZ := Lib.hid hz
          have hz' : ((fs k).n == 0) = true := by simp [hz]
          have c0 := HH.out.c0 k hlt
          have c1 := HH.out.c1 k hlt
          have c2 := HH.out.c2 k hlt
          have c3 := HH.out.c3 k hlt
          have c4 := HH.out.c4 k hlt
          have d := HH.out.d p j HP.out HJ.out.1
          have zb : ∀ i, (w.alloc (.cells #[.int .i64 kd, .int .i64 id, .int .i64 may, .bool false, .int .i64 0] 208)).frozen? ⟨b, i, none⟩ = false := HH.out.fz
          clear hz hlt
          go_wp2_with fail
          go_region
          go_wp2
          go_ret2
          refine ⟨?_, .inl ⟨j, k, HJ.out.1, by rw [← HR.out]; exact HJ.out.2.1, fun i hi => by rw [← HR.out]; exact HJ.out.2.2 i hi, HX.out, HZ.out, HK.out, rfl, ?_⟩⟩
          · exact (((((((KB.rfl' b w).alloc _).setc _ _).setc _ _).setc _ _).setc _ _).setc _ _).setc _ _ |>.setc _ _ |>.drew
          · exact ((HH.out.setAll HX.out ⟨kd, id, may, false, 0, 1⟩).setD1 HP.out HJ.out.1 HX.out).drew
        · have hz' : ((fs k).n == 0) = false := by simp [hz]
          have HZ := Lib.hid hz
          clear hz
          go_wp2
          go_round
          case rel => exact ⟨k + 1, by omega, rfl, fun j hj => by
            rcases Nat.lt_succ_iff_lt_or_eq.mp hj with q | q
            · exact HK.out j q
            · rw [q]; exact HZ.out⟩
          case measure => simp [intOf]; omega
      · obtain rfl : k = 32 := by omega
        go_wp2
        go_ret2
        exact ⟨KB.alloc (KB.rfl' _ _) _, .inr ⟨.inr HK.out, rfl, HH.out⟩⟩
  · go_wp2
    go_ret2
    exact ⟨KB.alloc (KB.rfl' _ _) _, .inr ⟨.inl (fun i hi => by rw [← HR.out i]; exact hn i hi), rfl, HH.out⟩⟩
end Go.Proofs.YtafflkemnniegaaGreatDoor.OpenLaw
namespace Go.Proofs.YtafflkemnniegaaGreatDoor
open Go.RowKit
set_option linter.unusedVariables false
set_option linter.unusedSimpArgs false
def appB := Builtin.append_ #[30, 30] 30
theorem appB_eq : Builtin.append_ #[30, 30] 30 = appB := rfl
/-- bytes that a call owns -/
def OB (B : Nat) (w : World) (v : Value) (l : List Int) : Prop := w.ownsRow B 5 1 v l.length (l.map u8V)
section
variable {B : Nat} {w w' : World} {v : Value} {l : List Int}
theorem OB.nil (B : Nat) (w : World) : OB B w (.slice none 0 0) [] := World.ownsRow_nil _ _ _ _
theorem OB.keep (h : OB B w v l) (hb : Below w.heap.size w w') : OB B w' v l := owns_keep h hb
theorem OB.upd {S : Nat → Prop} (h : OB B w v l) (hu : Upd S w w') (hn : ∀ g, v.ownBlock = some g → ¬ S g) : OB B w' v l := hu.owns h hn
theorem OB.base {B' : Nat} (h : OB B w v l) (hB : B' ≤ B) : OB B' w v l := owns_base h hB
theorem OB.at (h : OB B w v l) : At (Value.int .u8) 0 w v l := at_of_owned h
theorem OB.form (h : OB B w v l) : ∃ p cap, v = .slice p l.length cap := own_form h
theorem OB.drew (h : OB B w v l) : OB B w.drew v l := h.keep (Below.refl _ _).drew
theorem OB.drewN (h : OB B w v l) (n : Nat) : OB B (w.drewN n) v l := h.keep (below_drewN (Below.refl _ _) n)
theorem OB.far (h : OB B w v l) {b : Nat} (hb : b < B) : v.ownBlock ≠ some b := far_row h hb
/-- some bytes behind them -/
theorem OB.app (h : OB B w v l) (hB : B ≤ w.heap.size) {a : Addr} {c : Nat} {news : List Int} (hn : ∀ j u, (news.map u8V)[j]? = some u → w.cell? (a.add j) = some u) (h64 : l.length + news.length ≤ 1000000) :
    ∃ p c' w', (appB #[v, .slice (some a) news.length c]).run Tryz.prog w = .ok (.slice p (l.length + news.length) c') w' ∧ OB B w' (.slice p (l.length + news.length) c') (l ++ news) ∧ w.grownBy w' v.ownBlock ∧ Below B w w' := by
  obtain ⟨i0, hi, hz0, hz1, hz2⟩ := info_parts info5
  obtain ⟨v', w', hr, ho, hg, -⟩ := run_append_fresh (P := Tryz.prog) w B 30 30 5 i0 (.int .u8 0) 1 1 Tryz.underlying30 hi hz0 hz1 hz2 rfl (by decide) v l.length (l.map u8V) h a news.length c (news.map u8V) (by simp) hn (u8V_one news) (by unfold maxLen; omega) (by omega) hB
  obtain ⟨p, c', rfl⟩ := own_form ho
  refine ⟨p, c', w', hr, ?_, hg, ?_⟩
  · unfold OB
    rw [List.length_append, List.map_append]
    exact ho
  · exact (Below.refl B w).grown hg hB (fun g hgg => (h.lt g hgg).1)
/-- one byte behind them -/
theorem OB.push (h : OB B w v l) (hB : B ≤ w.heap.size) (x : Int) (h64 : l.length < 1000000) :
    ∃ p c' w', (appB #[v, .slice (some ⟨w.heap.size, 0, none⟩) 1 1]).run Tryz.prog (w.alloc (.cells #[.int .u8 x] 5)) = .ok (.slice p (l.length + 1) c') w' ∧ OB B w' (.slice p (l.length + 1) c') (l ++ [x]) ∧ (w.alloc (.cells #[.int .u8 x] 5)).grownBy w' v.ownBlock ∧ Below B w w' := by
  have hal := (Below.refl B w).alloc hB (.cells #[.int .u8 x] 5)
  obtain ⟨p, c', w', hr, ho, hg, hb⟩ := (h.keep (Go.Joins.below_alloc1 w (.cells #[.int .u8 x] 5))).app (a := ⟨w.heap.size, 0, none⟩) (c := 1) (news := [x]) (Nat.le_trans hB hal.size) (cells1_new w (.int .u8 x) 5) (by simp; omega)
  exact ⟨p, c', w', hr, ho, hg, hal.trans hb⟩
/-- a block of bytes is one's own -/
theorem ob_of_bk {g c : Nat} (h : BK w g l) (hB : B ≤ g) (hl : l.length ≤ 1000000) (hc : c = l.length) : OB B w (.slice (some ⟨g, 0, none⟩) l.length c) l := by
  subst hc
  refine ⟨by simp, .inr ⟨g, l.length, (l.map u8V).toArray, rfl, hB, h, Nat.le_refl _, by unfold maxLen; omega, by simp, ?_⟩⟩
  rw [Nat.mul_one, List.take_of_length_le (by simp)]
theorem BK.setCell {g : Nat} (h : BK w g l) (i : Nat) (x : Int) : w.setCell ⟨g, i, none⟩ (.int .u8 x) = w.setRow g ((l.set i x).map u8V).toArray := by
  rw [setCell_eq_setRow w g i _ 5 (0, 0) _ h]
  congr 1
  simp [List.map_set]
end
def mkB (a b : Value) : Sem Value := Instr.makeSlice 30 a b
theorem mkB_eq (a b : Value) : Instr.makeSlice 30 a b = mkB a b := rfl
def zeros (n : Nat) : List Int := List.replicate n 0
theorem zeros_len (n : Nat) : (zeros n).length = n := by simp [zeros]
theorem mkB_run (w : World) (n : Nat) (hn : n ≤ 1000000) : (mkB (.int .i64 (n : Int)) (.int .i64 (n : Int))).run Tryz.prog w = .ok (.slice (some ⟨w.heap.size, 0, none⟩) n n) (w.alloc (.cells ((zeros n).map u8V).toArray 5)) := by
  obtain ⟨i, hi, hz, hs, hb⟩ := info_parts info5
  have := run_makeSlice (P := Tryz.prog) w 30 5 i (.int .u8 0) Tryz.underlying30 hi hz .i64 .i64 (n : Int) (n : Int) (by omega) (Int.le_refl _) (by rw [hs]; simp; omega) (by rw [hb]; simp; omega) (by omega)
  unfold mkB
  rw [this, hs]
  have e : madeCells (Value.cells (.int .u8 0)) ((n : Int).toNat * 1) = ((zeros n).map u8V).toArray := by
    apply Array.ext
    · simp [size_madeCells, zeros]
    · intro j h1 h2
      simp [madeCells, zeros, Value.cells, Nat.mod_one]
  rw [e]
  simp
theorem mkB64 (w : World) : (mkB (.int .i64 64) (.int .i64 64)).run Tryz.prog w = .ok (.slice (some ⟨w.heap.size, 0, none⟩) 64 64) (w.alloc (.cells ((zeros 64).map u8V).toArray 5)) := mkB_run w 64 (by decide)
theorem mkB32 (w : World) : (mkB (.int .i64 32) (.int .i64 32)).run Tryz.prog w = .ok (.slice (some ⟨w.heap.size, 0, none⟩) 32 32) (w.alloc (.cells ((zeros 32).map u8V).toArray 5)) := mkB_run w 32 (by decide)
theorem mkB16 (w : World) : (mkB (.int .i64 16) (.int .i64 16)).run Tryz.prog w = .ok (.slice (some ⟨w.heap.size, 0, none⟩) 16 16) (w.alloc (.cells ((zeros 16).map u8V).toArray 5)) := mkB_run w 16 (by decide)
def copyS := Builtin.copy_ #[30, 9] 3
theorem copyS_eq : Builtin.copy_ #[30, 9] 3 = copyS := rfl
/-- a string is copied to the head of a block -/
theorem run_copyS {w : World} {g dC : Nat} {cur news : List Int} {s : ByteArray} (hg : BK w g cur) (hs : Lib.byteCells s.data.toList = news.map u8V) (hz : s.size = news.length) (hle : news.length ≤ cur.length) :
    (copyS #[.slice (some ⟨g, 0, none⟩) cur.length dC, .string s]).run Tryz.prog w = .ok (.int .i64 news.length) (w.setRow g ((splice cur 0 news).map u8V).toArray) := by
  have h := Lib.run_copy_row_string (P := Tryz.prog) w 30 9 3 5 g 0 cur.length dC s (cur.map u8V).toArray 5 Tryz.underlying30 (by kernel_rfl) hg (by omega) (by simp; omega)
  rw [← copyS_eq, h, hs, hz]
  simp [goInt, splice, List.map_drop]
end Go.Proofs.YtafflkemnniegaaGreatDoor
namespace Go.Proofs.YtafflkemnniegaaGreatDoor
open Go.RowKit
set_option linter.unusedVariables false
set_option linter.unusedSimpArgs false
attribute [local go_sem ↓] mkB_eq
theorem size_alloc1 (w : World) (o : Obj) : (w.alloc o).heap.size = w.heap.size + 1 := by simp
theorem dk_new {w : World} {D sb nb S : Nat} {l : List Int} (hD : w.heap[D]? = some (.cells #[.slice (some ⟨sb, 0, none⟩) (S * 64) (S * 64), .slice (some ⟨nb, 0, none⟩) (S * 64) (S * 64), .slice none 0 0, .int .i64 (-1)] 159 (0, 0))) (hs : BK w sb l) (hn : BK w nb l) (hl : l.length = S * 64) (h1 : D ≠ sb) (h2 : D ≠ nb) (h3 : sb ≠ nb) (hS0 : 1 ≤ S) (hS : S ≤ 256) : Dk w D sb nb (.slice none 0 0) 0 S l l :=
  ⟨by rw [cell_of_row w D 0 _ _ (0, 0) hD]; rfl, by rw [cell_of_row w D 1 _ _ (0, 0) hD]; rfl, by rw [cell_of_row w D 2 _ _ (0, 0) hD]; rfl, by rw [cell_of_row w D 3 _ _ (0, 0) hD]; rfl, fun j => by simp [World.frozen?, hD], (Array.getElem?_eq_some_iff.1 hD).1, hs, hn, hl, hl, ⟨[], World.ownsRow_nil _ _ _ _⟩, h1, h2, h3, by simp [Value.ownBlock], by simp [Value.ownBlock], by simp [Value.ownBlock], hS0, hS⟩
theorem Dk.drew0 {w : World} {D sb nb m S : Nat} {wv : Value} {s f : List Int} (h : Dk w D sb nb wv m S s f) : Dk w.drew D sb nb wv m S s f := h.keep (Below.refl _ _).drew
theorem dn_blocks (w : World) (Z : Array Value) (hZ : Z = ((zeros 4096).map u8V).toArray) (sb nb : Nat) (h : (sb = w.heap.size ∧ nb = w.heap.size + 1) ∨ (sb = w.heap.size + 1 ∧ nb = w.heap.size)) :
    Dk (((w.alloc (.cells Z 5)).alloc (.cells Z 5)).alloc (.cells #[.slice (some ⟨sb, 0, none⟩) 4096 4096, .slice (some ⟨nb, 0, none⟩) 4096 4096, .slice none 0 0, .int .i64 (-1)] 159)) (w.heap.size + 1 + 1) sb nb (.slice none 0 0) 0 64 (zeros 4096) (zeros 4096) ∧
    Below w.heap.size w (((w.alloc (.cells Z 5)).alloc (.cells Z 5)).alloc (.cells #[.slice (some ⟨sb, 0, none⟩) 4096 4096, .slice (some ⟨nb, 0, none⟩) 4096 4096, .slice none 0 0, .int .i64 (-1)] 159)) := by
  subst hZ
  have k0 : BK (((w.alloc (.cells ((zeros 4096).map u8V).toArray 5)).alloc (.cells ((zeros 4096).map u8V).toArray 5)).alloc (.cells #[.slice (some ⟨sb, 0, none⟩) 4096 4096, .slice (some ⟨nb, 0, none⟩) 4096 4096, .slice none 0 0, .int .i64 (-1)] 159)) w.heap.size (zeros 4096) :=
    ((bk_new w _).keep (Go.Joins.below_alloc1 _ _)).keep (Go.Joins.below_alloc1 _ _)
  have k1 : BK (((w.alloc (.cells ((zeros 4096).map u8V).toArray 5)).alloc (.cells ((zeros 4096).map u8V).toArray 5)).alloc (.cells #[.slice (some ⟨sb, 0, none⟩) 4096 4096, .slice (some ⟨nb, 0, none⟩) 4096 4096, .slice none 0 0, .int .i64 (-1)] 159)) (w.heap.size + 1) (zeros 4096) := by
    have := (bk_new (w.alloc (.cells ((zeros 4096).map u8V).toArray 5)) (zeros 4096)).keep (Go.Joins.below_alloc1 _ (.cells #[.slice (some ⟨sb, 0, none⟩) 4096 4096, .slice (some ⟨nb, 0, none⟩) 4096 4096, .slice none 0 0, .int .i64 (-1)] 159))
    rwa [size_alloc1] at this
  have kD := heap_alloc_new ((w.alloc (.cells ((zeros 4096).map u8V).toArray 5)).alloc (.cells ((zeros 4096).map u8V).toArray 5)) (.cells #[.slice (some ⟨sb, 0, none⟩) 4096 4096, .slice (some ⟨nb, 0, none⟩) 4096 4096, .slice none 0 0, .int .i64 (-1)] 159)
  rw [size_alloc1, size_alloc1] at kD
  have hb : Below w.heap.size w (((w.alloc (.cells ((zeros 4096).map u8V).toArray 5)).alloc (.cells ((zeros 4096).map u8V).toArray 5)).alloc (.cells #[.slice (some ⟨sb, 0, none⟩) 4096 4096, .slice (some ⟨nb, 0, none⟩) 4096 4096, .slice none 0 0, .int .i64 (-1)] 159)) :=
    (((Below.refl _ _).alloc (Nat.le_refl _) _).alloc (by rw [size_alloc1]; omega) _).alloc (by rw [size_alloc1, size_alloc1]; omega) _
  refine ⟨?_, hb⟩
  rcases h with ⟨rfl, rfl⟩ | ⟨rfl, rfl⟩
  · exact dk_new (S := 64) kD k0 k1 (zeros_len _) (by omega) (by omega) (by omega) (by decide) (by decide)
  · exact dk_new (S := 64) kD k1 k0 (zeros_len _) (by omega) (by omega) (by omega) (by decide) (by decide)
set_option maxRecDepth 100000 in
set_option maxHeartbeats 400000 in
theorem dnew_is (w : World) : Calls Tryz.prog 27 #[.int .i64 64] w fun e w' => ∃ D sb nb, e = .returned (.tuple #[.pointer (some ⟨D, 0, none⟩), .int .i64 0]) ∧ Dk w' D sb nb (.slice none 0 0) 0 64 (zeros 4096) (zeros 4096) ∧ w.heap.size ≤ D ∧ w.heap.size ≤ sb ∧ w.heap.size ≤ nb ∧ Below w.heap.size w w' := by
  have hmk : ∀ w : World, (mkB (.int .i64 4096) (.int .i64 4096)).run Tryz.prog w = .ok (.slice (some ⟨w.heap.size, 0, none⟩) 4096 4096) (w.alloc (.cells ((zeros 4096).map u8V).toArray 5)) := fun w => mkB_run w 4096 (by decide)
  obtain ⟨Z, hZ⟩ : ∃ Z, Z = ((zeros 4096).map u8V).toArray := ⟨_, rfl⟩
  rw [← hZ] at hmk
  have HZ := Lib.hid hZ
  clear hZ
  go_enter Tryz.func27, Tryz.ntmps27
  go_upto_region 4 with fail
  go_region
  · have HA := Lib.hid (dn_blocks w Z HZ.out (w.heap.size) (w.heap.size + 1) (.inl ⟨rfl, rfl⟩))
    clear hmk HZ
    go_wp2_with fail
    go_ret2
    exact ⟨_, _, _, rfl, HA.out.1.drew0, by omega, by omega, by omega, HA.out.2.drew⟩
  · have HA := Lib.hid (dn_blocks w Z HZ.out (w.heap.size + 1) (w.heap.size) (.inr ⟨rfl, rfl⟩))
    clear hmk HZ
    go_wp2_with fail
    go_ret2
    exact ⟨_, _, _, rfl, HA.out.1.drew0, by omega, by omega, by omega, HA.out.2.drew⟩
end Go.Proofs.YtafflkemnniegaaGreatDoor
namespace Go.Proofs.YtafflkemnniegaaGreatDoor
open Go.RowKit
set_option linter.unusedVariables false
set_option linter.unusedSimpArgs false
def fV (j x : Nat) : Value := if j % 48 < 16 then .int .i64 x else .int .u8 x
def forA (G : Nat → Nat) : Array Value := Array.ofFn (n := 192) (fun j => fV j.val (G j.val))
def treA (G : Nat → Nat) : Array Value := Array.ofFn (n := 48) (fun j => fV j.val (G j.val))
def setA (h : Nat → Nat) : Array Value := Array.ofFn (n := 32) (fun j => .int .u8 (h j.val))
def nodA (h : Nat → Nat) : Array Value := Array.ofFn (n := 16) (fun j => .int .i64 (h j.val))
theorem forA_size (G) : (forA G).size = 192 := by simp [forA]
theorem treA_size (G) : (treA G).size = 48 := by simp [treA]
theorem setA_size (G) : (setA G).size = 32 := by simp [setA]
theorem nodA_size (G) : (nodA G).size = 16 := by simp [nodA]
theorem forA_get (G) {j : Nat} (h : j < 192) : (forA G)[j]? = some (fV j (G j)) := by simp [forA, h]
theorem treA_get (G) {j : Nat} (h : j < 48) : (treA G)[j]? = some (fV j (G j)) := by simp [treA, h]
theorem setA_get (G) {j : Nat} (h : j < 32) : (setA G)[j]? = some (.int .u8 (G j)) := by simp [setA, h]
theorem nodA_get (G) {j : Nat} (h : j < 16) : (nodA G)[j]? = some (.int .i64 (G j)) := by simp [nodA, h]
theorem fV_one (j x : Nat) : (fV j x).oneCell' = true := by unfold fV; split <;> rfl
theorem setA_one (G) : (setA G).all (·.oneCell') = true := by
  rw [Array.all_eq_true]
  intro i hi
  simp [setA, Value.oneCell']
theorem forA_one (G) : (forA G).all (·.oneCell') = true := by
  rw [Array.all_eq_true]
  intro i hi
  simp only [forA, Array.getElem_ofFn]
  exact fV_one _ _
theorem fV_lo {k i : Nat} (hi : i < 16) (x : Nat) : fV (k * 48 + i) x = .int .i64 x := by unfold fV; rw [if_pos (by omega)]
theorem fV_hi {k i : Nat} (h1 : i < 32) (x : Nat) : fV (k * 48 + 16 + i) x = .int .u8 x := by unfold fV; rw [if_neg (by omega)]
/-- G with x at j -/
def up (G : Nat → Nat) (j x : Nat) : Nat → Nat := fun i => if i = j then x else G i
/-- G with n of h from o on -/
def ups (G : Nat → Nat) (o n : Nat) (h : Nat → Nat) : Nat → Nat := fun i => if o ≤ i ∧ i < o + n then h (i - o) else G i
theorem forA_ext {G H : Nat → Nat} (h : ∀ j, j < 192 → G j = H j) : forA G = forA H := by
  apply Array.ext
  · simp [forA_size]
  · intro i h1 h2
    simp only [forA, Array.getElem_ofFn]
    rw [h i (by simpa [forA_size] using h1)]
theorem setA_ext {G H : Nat → Nat} (h : ∀ j, j < 32 → G j = H j) : setA G = setA H := by
  apply Array.ext
  · simp [setA_size]
  · intro i h1 h2
    simp only [setA, Array.getElem_ofFn]
    rw [h i (by simpa [setA_size] using h1)]
theorem forA_up (G) {j x : Nat} (h : j < 192) : (forA G).setIfInBounds j (fV j x) = forA (up G j x) := by
  apply Array.ext_getElem?
  intro i
  rw [Array.getElem?_setIfInBounds]
  by_cases hi : i < 192
  · rw [forA_get _ hi, forA_get _ hi]
    unfold up
    by_cases e : i = j
    · subst e; rw [if_pos rfl, if_pos rfl, if_pos (by rw [forA_size]; exact h)]
    · rw [if_neg (fun q => e q.symm), if_neg e]
  · rw [if_neg (by omega), Array.getElem?_eq_none (by rw [forA_size]; omega), Array.getElem?_eq_none (by rw [forA_size]; omega)]
theorem setA_up (G) {j x : Nat} (h : j < 32) : (setA G).setIfInBounds j (.int .u8 x) = setA (up G j x) := by
  apply Array.ext_getElem?
  intro i
  rw [Array.getElem?_setIfInBounds]
  by_cases hi : i < 32
  · rw [setA_get _ hi, setA_get _ hi]
    unfold up
    by_cases e : i = j
    · subst e; rw [if_pos rfl, if_pos rfl, if_pos (by rw [setA_size]; exact h)]
    · rw [if_neg (fun q => e q.symm), if_neg e]
  · rw [if_neg (by omega), Array.getElem?_eq_none (by rw [setA_size]; omega), Array.getElem?_eq_none (by rw [setA_size]; omega)]
theorem forA_set (G) {k : Nat} (hk : k < 4) : (forA G).extract (k * 48 + 16) (k * 48 + 16 + 32) = setA (fun j => G (k * 48 + 16 + j)) := by
  apply Array.ext
  · simp [forA_size, setA_size]; omega
  · intro i h1 h2
    have hi : i < 32 := by simpa [setA_size] using h2
    simp only [Array.getElem_extract, forA, setA, Array.getElem_ofFn]
    exact fV_hi hi _
theorem forA_nod (G) {k : Nat} (hk : k < 4) : (forA G).extract (k * 48) (k * 48 + 16) = nodA (fun j => G (k * 48 + j)) := by
  apply Array.ext
  · simp [forA_size, nodA_size]; omega
  · intro i h1 h2
    have hi : i < 16 := by simpa [nodA_size] using h2
    simp only [Array.getElem_extract, forA, nodA, Array.getElem_ofFn]
    exact fV_lo hi _
theorem forA_tre (G) {k : Nat} (hk : k < 4) : (forA G).extract (k * 48) (k * 48 + 48) = treA (fun j => G (k * 48 + j)) := by
  apply Array.ext
  · simp [forA_size, treA_size]; omega
  · intro i h1 h2
    have hi : i < 48 := by simpa [treA_size] using h2
    simp only [Array.getElem_extract, forA, treA, Array.getElem_ofFn, fV]
    have e : (k * 48 + i) % 48 = i % 48 := by omega
    rw [e]
theorem forA_put (G) (h) {k : Nat} (hk : k < 4) : putA (forA G) (k * 48 + 16) (setA h).toList = forA (ups G (k * 48 + 16) 32 h) := by
  apply Array.ext_getElem?
  intro i
  have hl : (setA h).toList.length = 32 := by simp [setA_size]
  rw [putA_get (by rw [hl, forA_size]; omega), hl]
  by_cases hi : i < 192
  · rw [forA_get _ hi, forA_get _ hi]
    unfold ups
    by_cases e : k * 48 + 16 ≤ i ∧ i < k * 48 + 16 + 32
    · rw [if_pos e, if_pos e, Array.getElem?_toList, setA_get _ (by omega)]
      obtain ⟨j, rfl⟩ : ∃ j, i = k * 48 + 16 + j := ⟨i - (k * 48 + 16), by omega⟩
      rw [fV_hi (by omega)]
    · rw [if_neg e, if_neg e]
  · rw [if_neg (by omega), Array.getElem?_eq_none (by rw [forA_size]; omega), Array.getElem?_eq_none (by rw [forA_size]; omega)]
theorem ld_set (v : Value) : Instr.loadAt 162 v = ldR 162 v := rfl
theorem st_set (p v : Value) : Instr.storeAt 162 p v = stR 162 p v := rfl
theorem u8_or (a b : Nat) (ha : a < 2 ^ 8) (hb : b < 2 ^ 8) : bits .or .u8 (a : Int) (b : Int) = ((a ||| b : Nat) : Int) :=
  (bits_nat .u8 8 (by decide) (fun n h0 h1 => by rw [IntKind.wrap_u8]; omega) a b ha hb).2
def bitOn (h : Nat → Nat) (n : Nat) : Nat → Nat := up h (n / 8) (h (n / 8) ||| 2 ^ (n % 8))
theorem bitOn_lt {h : Nat → Nat} (hh : ∀ j, h j < 256) (n : Nat) : ∀ j, bitOn h n j < 256 := by
  intro j
  unfold bitOn up
  split
  · exact Nat.or_lt_two_pow (n := 8) (hh _) (Nat.pow_lt_pow_right (by decide) (Nat.mod_lt _ (by decide)))
  · exact hh j
attribute [local go_sem ↓] ld_set st_set
set_option maxRecDepth 100000 in
set_option maxHeartbeats 400000 in
theorem with_is (w : World) {h : Nat → Nat} (hh : ∀ j, h j < 256) {n : Nat} (hn : n < 256) : Calls Tryz.prog 74 #[.agg (setA h), .int .i64 n] w fun e w' => e = .returned (.agg (setA (bitOn h n))) ∧ Below w.heap.size w w' := by
  have hsz := setA_size h
  have i0 : (0 : Int) ≤ n := by omega
  have i1 : (n : Int) < 256 := by omega
  have HN := Lib.hid hn
  have HH := Lib.hid hh
  clear hn hh
  obtain ⟨A, hA⟩ : ∃ A, A = setA h := ⟨_, rfl⟩
  rw [← hA] at hsz ⊢
  have HA := Lib.hid hA
  clear hA
  go_enter Tryz.func74, Tryz.ntmps74
  go_upto_region 2 with fail
  obtain ⟨w2, hw2⟩ : ∃ w2, w2 = (w.alloc (.cells A 162)).alloc (.cells #[.int .u8 0, .int .u8 0, .int .u8 0, .int .u8 0, .int .u8 0, .int .u8 0, .int .u8 0, .int .u8 0, .int .u8 0, .int .u8 0, .int .u8 0, .int .u8 0, .int .u8 0, .int .u8 0, .int .u8 0, .int .u8 0, .int .u8 0, .int .u8 0, .int .u8 0, .int .u8 0, .int .u8 0, .int .u8 0, .int .u8 0, .int .u8 0, .int .u8 0, .int .u8 0, .int .u8 0, .int .u8 0, .int .u8 0, .int .u8 0, .int .u8 0, .int .u8 0] 162) := ⟨_, rfl⟩
  rw [← hw2]
  have R1 : Row w2 w.heap.size 162 A := by rw [hw2]; exact (row_new w _ A).alloc _
  have R2 : Row w2 (w.heap.size + 1) 162 #[.int .u8 0, .int .u8 0, .int .u8 0, .int .u8 0, .int .u8 0, .int .u8 0, .int .u8 0, .int .u8 0, .int .u8 0, .int .u8 0, .int .u8 0, .int .u8 0, .int .u8 0, .int .u8 0, .int .u8 0, .int .u8 0, .int .u8 0, .int .u8 0, .int .u8 0, .int .u8 0, .int .u8 0, .int .u8 0, .int .u8 0, .int .u8 0, .int .u8 0, .int .u8 0, .int .u8 0, .int .u8 0, .int .u8 0, .int .u8 0, .int .u8 0, .int .u8 0] := by
    rw [hw2]
    have := row_new (w.alloc (.cells A 162)) 162 #[.int .u8 0, .int .u8 0, .int .u8 0, .int .u8 0, .int .u8 0, .int .u8 0, .int .u8 0, .int .u8 0, .int .u8 0, .int .u8 0, .int .u8 0, .int .u8 0, .int .u8 0, .int .u8 0, .int .u8 0, .int .u8 0, .int .u8 0, .int .u8 0, .int .u8 0, .int .u8 0, .int .u8 0, .int .u8 0, .int .u8 0, .int .u8 0, .int .u8 0, .int .u8 0, .int .u8 0, .int .u8 0, .int .u8 0, .int .u8 0, .int .u8 0, .int .u8 0]
    simpa using this
  have HB : Hid (Below w.heap.size w w2) := Lib.hid (by rw [hw2]; exact ((Below.refl _ _).alloc (Nat.le_refl _) _).alloc (by simp) _)
  clear hw2
  have hn := HN.out
  obtain ⟨q, hq⟩ : ∃ q, q = n / 8 := ⟨_, rfl⟩
  obtain ⟨r, hr⟩ : ∃ r, r = n % 8 := ⟨_, rfl⟩
  have p8 : 2 ^ r < 2 ^ 8 := Nat.pow_lt_pow_right (by decide) (by omega)
  have hx : h q ||| 2 ^ r < 256 := Nat.or_lt_two_pow (n := 8) (HH.out _) (Nat.pow_lt_pow_right (by decide) (by omega))
  have c1 : w2.drew.cell? ⟨w.heap.size, q, none⟩ = some (.int .u8 (h q)) := by
    rw [R1.drew.cell, HA.out, setA_get _ (by omega)]
  have z1 : w2.drew.frozen? ⟨w.heap.size, q, none⟩ = false := R1.drew.fz q
  have e1 : (n : Int).tdiv 8 = q := by rw [Int.tdiv_eq_ediv_of_nonneg (by omega)]; omega
  have e2 : (n : Int) / 8 = q := by omega
  have e3 : (n : Int).tmod 8 = r := by rw [Int.tmod_eq_emod_of_nonneg (by omega)]; omega
  have e4 : (n : Int) % 8 = r := by omega
  have q32 : (q : Int) < 32 := by omega
  have s2 : bits BinOp.or IntKind.u8 (h q : Int) ((2 : Int) ^ r % 256) = ((h q ||| 2 ^ r : Nat) : Int) := by
    rw [← u8_or (h q) (2 ^ r) (HH.out _) p8]
    congr 1
    have e : ((2 ^ r : Nat) : Int) = (2 : Int) ^ r := by push_cast; rfl
    rw [← e]
    clear e
    generalize 2 ^ r = z at *
    omega
  have eB : A.setIfInBounds q (.int .u8 ((h q ||| 2 ^ r : Nat) : Int)) = setA (bitOn h n) := by
    rw [HA.out, setA_up _ (by omega)]
    unfold bitOn
    rw [hq, hr]
  have R3 : Row ((w2.setCell ⟨w.heap.size, q, none⟩ (.int .u8 ((h q ||| 2 ^ r : Nat) : Int))).drew) w.heap.size 162 (setA (bitOn h n)) := by
    rw [R1.setCell, ← eB]
    exact (R1.setRow _).drew
  have R4 : Row ((w2.setCell ⟨w.heap.size, q, none⟩ (.int .u8 ((h q ||| 2 ^ r : Nat) : Int))).drew) (w.heap.size + 1) 162 #[.int .u8 0, .int .u8 0, .int .u8 0, .int .u8 0, .int .u8 0, .int .u8 0, .int .u8 0, .int .u8 0, .int .u8 0, .int .u8 0, .int .u8 0, .int .u8 0, .int .u8 0, .int .u8 0, .int .u8 0, .int .u8 0, .int .u8 0, .int .u8 0, .int .u8 0, .int .u8 0, .int .u8 0, .int .u8 0, .int .u8 0, .int .u8 0, .int .u8 0, .int .u8 0, .int .u8 0, .int .u8 0, .int .u8 0, .int .u8 0, .int .u8 0, .int .u8 0] := by
    rw [R1.setCell]
    exact (R2.setRowO (by omega) _).drew
  have HB3 : Hid (Below w.heap.size w ((w2.setCell ⟨w.heap.size, q, none⟩ (.int .u8 ((h q ||| 2 ^ r : Nat) : Int))).drew)) := Lib.hid (HB.out.setCell (Nat.le_refl _) _).drew
  have HR3 := Lib.hid R3
  have HR4 := Lib.hid R4
  clear hq hr hx p8 R1 R2 R3 R4 hn eB HB
  generalize ((h q ||| 2 ^ r : Nat) : Int) = x3 at *
  go_region
  generalize (w2.setCell ⟨w.heap.size, q, none⟩ (.int .u8 x3)).drew = w3 at *
  have l1 := HR3.out.ld0 Tryz.underlying162 rfl (by rw [setA_size]; kernel_rfl)
  have l2 := HR4.out.st0 (cs := setA (bitOn h n)) (by rw [setA_size]; rfl) (by rw [setA_size]; kernel_rfl) (setA_one _)
  have l3 := (HR4.out.setRow (setA (bitOn h n))).ldV Tryz.underlying162 rfl (by rw [setA_size]; kernel_rfl)
  have HB4 := Lib.hid (HB3.out.trans (Upd.toBelow (Upd.setRow w3 (b := w.heap.size + 1) (setA (bitOn h n)) (S := fun k => k = w.heap.size + 1) rfl) HB3.out.size (by omega)))
  generalize w3.setRow (w.heap.size + 1) (setA (bitOn h n)) = w4 at *
  generalize hBq : setA (bitOn h n) = B at *
  have HBq := Lib.hid hBq
  clear hBq
  go_wp2_with fail
  exact bodyPost_ret (v := .agg B) (by rw [results_cell1 rfl]; simp [asAddr, Result.andThen, l3]) rfl ⟨by rw [HBq.out], HB4.out⟩
end Go.Proofs.YtafflkemnniegaaGreatDoor
