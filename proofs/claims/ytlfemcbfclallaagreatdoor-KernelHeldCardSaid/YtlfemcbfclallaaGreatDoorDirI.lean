/- The walks of package dir at one entry: lay. The walks of package dir at one entry: List, Find, Put. The walks of package dir: List at one entry, Find, Put. -/
import Derived.Test.YtlfemcbfclallaaGreatDoorDirF
import Derived.BigRegion
namespace Go.Proofs.YtlfemcbfclallaaGreatDoor
open Go.RowKit Go.Maps
set_option linter.unusedVariables false
set_option linter.unusedSimpArgs false
section
attribute [local go_sem ↓] mkB_eq copyS_eq
set_option maxRecDepth 100000 in
set_option maxHeartbeats 1000000 in
theorem layF_is {w : World} {pl p2 p3 p4 gb g o cap : Nat} (hl : w.cell? ⟨pl, 0, none⟩ = some (.slice (some ⟨g, o, none⟩) 1 cap)) (h2 : w.cell? ⟨p2, 0, none⟩ = some (.func (Fn.func 338) #[] #[.pointer (some ⟨pl, 0, none⟩), .pointer (some ⟨p2, 0, none⟩), .pointer (some ⟨p3, 0, none⟩), .pointer (some ⟨p4, 0, none⟩)])) (h3 : w.cell? ⟨p3, 0, none⟩ = some (.slice (some ⟨gb, 0, none⟩) 16 16)) (h4 : Row w p4 3 #[.int .i64 0]) (hb : BK w gb (zeros 16)) (he : E1 w g o cap)
    (n1 : pl ≠ gb ∧ p2 ≠ gb ∧ p3 ≠ gb ∧ p4 ≠ gb ∧ g ≠ gb) (n2 : pl ≠ p4 ∧ p2 ≠ p4 ∧ p3 ≠ p4 ∧ g ≠ p4) :
    Calls Tryz.prog 338 #[.int .i64 0, .pointer (some ⟨pl, 0, none⟩), .pointer (some ⟨p2, 0, none⟩), .pointer (some ⟨p3, 0, none⟩), .pointer (some ⟨p4, 0, none⟩)] w fun e w' => e = .returned (.tuple #[]) ∧ BK w' gb entL ∧ Upd (fun j => j = gb ∨ j = p4) w w' := by
  have q1 := h4.cell 0
  have c0 := he.c0
  have c1 := he.c1
  have hcm : (cap : Int) ≤ 9223372036854775807 := by have := he.l2; unfold maxLen at this; omega
  have HL1 : Hid (Calls Tryz.prog 338 #[.int .i64 1, .pointer (some ⟨pl, 0, none⟩), .pointer (some ⟨p2, 0, none⟩), .pointer (some ⟨p3, 0, none⟩), .pointer (some ⟨p4, 0, none⟩)] w fun e w' => e = .returned (.tuple #[]) ∧ w = w') := Lib.hid (layE_is hl (k := 1) (Nat.le_refl _))
  have hlt : ∀ {b o v}, w.cell? ⟨b, o, none⟩ = some v → b < w.heap.size := fun h => World.block_lt_of_cell? w _ h
  have hcp := run_copyS (dC := 16) (w := w.drew) (s := ⟨#[102]⟩) (news := [102]) hb (by rfl) (by rfl) (by decide)
  rw [zeros_len] at hcp
  have hcp : (copyS #[.slice (some ⟨gb, 0, none⟩) 16 16, .string ⟨#[102]⟩]).run Tryz.prog w.drew = .ok (.int .i64 1) (w.drew.setRow gb ((splice (zeros 16) 0 [102]).map u8V).toArray) := hcp
  have hu1 : Upd (fun j => j = gb) w (w.drew.setRow gb ((splice (zeros 16) 0 [102]).map u8V).toArray) := (Upd.drew w).trans (Upd.setRow _ _ rfl)
  have hb1 : BK (w.drew.setRow gb ((splice (zeros 16) 0 [102]).map u8V).toArray) gb (splice (zeros 16) 0 [102]) := BK.setRow (show BK w.drew gb (zeros 16) from hb) _
  have HK := Lib.hid (And.intro hu1 hb1)
  have HH := Lib.hid (And.intro hl (And.intro h2 (And.intro h3 (And.intro h4 he))))
  have HN := Lib.hid (And.intro n1 n2)
  clear hb he h4 hu1 hb1 n1 n2
  go_enter Tryz.func338, Tryz.ntmps338
  go_upto_region 2 with (go_at_call 338; (with_reducible refine HL1.out.mono ?_); rintro e1 w1 ⟨rfl, rfl⟩)
  go_region
  generalize w.drew.setRow gb ((splice (zeros 16) 0 [102]).map u8V).toArray = w2 at *
  obtain ⟨⟨n11, n12, n13, n14, n15⟩, n21, n22, n23, n24⟩ := HN.out
  have hl2 := (HK.out.1.cell (o := 0) (hlt HH.out.1) n11).trans HH.out.1
  have h22 := (HK.out.1.cell (o := 0) (hlt HH.out.2.1) n12).trans HH.out.2.1
  have h23 := (HK.out.1.cell (o := 0) (hlt HH.out.2.2.1) n13).trans HH.out.2.2.1
  have h24 := HH.out.2.2.2.1.upd HK.out.1 n14
  have q2 := h24.cell 0
  have z2 := h24.fz 0
  have he2 := HH.out.2.2.2.2.upd HK.out.1 n15
  have d0 := he2.c0
  have d1 := he2.c1
  have k14 := HK.out.2.cell (i := 14) (by decide)
  have f14 : w2.frozen? ⟨gb, 14, none⟩ = false := by have hb2 := HK.out.2; unfold BK at hb2; simp [World.frozen?, hb2]
  have HE2 := Lib.hid (And.intro hl2 (And.intro h22 (And.intro h24 he2)))
  clear hl h2 h3 q1 c0 c1 hcp h24 he2
  go_upto_region 3 with fail
  go_region
  have e3 : w2.setCell ⟨gb, 14, none⟩ (.int .u8 2) = w2.setRow gb (entL.map u8V).toArray := by
    rw [HK.out.2.setCell]
    rfl
  rw [e3]
  clear e3
  have hu3 : Upd (fun j => j = gb) w2 (w2.setRow gb (entL.map u8V).toArray).drew := (Upd.setRow (S := fun j => j = gb) w2 _ rfl).trans (Upd.drew _)
  have hb3 : BK (w2.setRow gb (entL.map u8V).toArray).drew gb entL := HK.out.2.setRow entL
  have h34 := HE2.out.2.2.1.upd hu3 n14
  have hl3 := (hu3.cell (o := 0) (World.block_lt_of_cell? w2 _ HE2.out.1) n11).trans HE2.out.1
  have h32 := (hu3.cell (o := 0) (World.block_lt_of_cell? w2 _ HE2.out.2.1) n12).trans HE2.out.2.1
  have HK3 := Lib.hid (And.intro (HK.out.1.trans hu3) hb3)
  clear hu3 hb3 k14 f14 hl2 h22 h23 q2 z2 d0 d1
  generalize (w2.setRow gb (entL.map u8V).toArray).drew = w3 at *
  have q3 := h34.cell 0
  have z3 := h34.fz 0
  have hu4 : Upd (fun j => j = p4) w3 (w3.setCell ⟨p4, 0, none⟩ (.int .i64 1)) := Upd.set w3 _ rfl
  have hl4 := (hu4.cell (o := 0) (World.block_lt_of_cell? w3 _ hl3) n21).trans hl3
  have h42 := (hu4.cell (o := 0) (World.block_lt_of_cell? w3 _ h32) n22).trans h32
  have HK4 : Hid (Upd (fun j => j = gb ∨ j = p4) w (w3.setCell ⟨p4, 0, none⟩ (.int .i64 1)) ∧ BK (w3.setCell ⟨p4, 0, none⟩ (.int .i64 1)) gb entL) := Lib.hid ⟨(HK3.out.1.mono (fun i _ e => .inl e)).trans (hu4.mono (fun i _ e => .inr e)), by
    have := (show Row w3 gb 5 (entL.map u8V).toArray from HK3.out.2).upd hu4 (fun e => n14 e.symm)
    exact this⟩
  have HL2 : Hid (Calls Tryz.prog 338 #[.int .i64 2, .pointer (some ⟨pl, 0, none⟩), .pointer (some ⟨p2, 0, none⟩), .pointer (some ⟨p3, 0, none⟩), .pointer (some ⟨p4, 0, none⟩)] (w3.setCell ⟨p4, 0, none⟩ (.int .i64 1)) fun e w' => e = .returned (.tuple #[]) ∧ w3.setCell ⟨p4, 0, none⟩ (.int .i64 1) = w') := Lib.hid (layE_is hl4 (k := 2) (by decide))
  clear hu4 hl4
  go_wp2_with (go_at_call 338; (with_reducible refine HL2.out.mono ?_); rintro e1 w4 ⟨rfl, rfl⟩)
  (try simp only [Exit.inBlock, Exit.then]); first | (refine bodyPost_ret (results_none rfl _ _ _) rfl ?_) | (refine bodyPost_end (results_none rfl _ _ _) rfl ?_)
  exact ⟨rfl, HK4.out.2, HK4.out.1⟩
theorem mkB16' (w : World) : (mkB (.int .i64 16) (.int .i64 16)).run Tryz.prog w = .ok (.slice (some ⟨w.heap.size, 0, none⟩) 16 16) (w.alloc (.cells ((zeros 16).map u8V).toArray 5)) := mkB_run w 16 (by decide)
set_option maxRecDepth 100000 in
set_option maxHeartbeats 1000000 in
theorem lay1_is {w : World} {g o cap : Nat} (h : E1 w g o cap) : Calls Tryz.prog 301 #[.slice (some ⟨g, o, none⟩) 1 cap] w fun e w' => ∃ gb, e = .returned (.tuple #[.slice (some ⟨gb, 0, none⟩) 16 16, .int .i64 0]) ∧ w.heap.size ≤ gb ∧ BK w' gb entL ∧ Below w.heap.size w w' := by
  have hal := Go.Joins.below_alloc1 w (.cells #[.slice (some ⟨g, o, none⟩) 1 cap] 30)
  have HR := Lib.hid (right1_is (h.keep hal))
  have HB := Lib.hid hal
  have hr := row_new w 30 #[.slice (some ⟨g, o, none⟩) 1 cap]
  have HRW := Lib.hid hr
  have c0 := hr.cell 0
  have HE := Lib.hid (h.keep hal)
  have HS := Lib.hid (fun w f g cap => sortE_is w f (some ⟨g, 0, none⟩) 1 cap (.inr rfl))
  clear hal hr h
  go_enter Tryz.func301, Tryz.ntmps301
  go_upto_region 1 with fail
  generalize w.alloc (.cells #[.slice (some ⟨g, o, none⟩) 1 cap] 30) = w1 at *
  go_upto_region 4 with (go_at_call 334; (with_reducible refine HR.out.mono ?_); rintro e2 w2 ⟨rfl, hb2⟩)
  have HB2 := Lib.hid (HB.out.trans (hb2.mono HB.out.size))
  have HR2 := Lib.hid (HRW.out.keep hb2)
  have c2 := HR2.out.cell 0
  have HCL := Lib.hid (cloneE1_is (HE.out.keep hb2))
  clear hb2 c0 HRW HE HR HB
  go_upto_region 5 with (go_at_call 335; (with_reducible refine HCL.out.mono ?_); rintro e3 w3 ⟨g3, cap3, rfl, hg3, he3, hb3⟩; have z3 := (HR2.out.keep hb3).fz 0; have y3 := (HR2.out.keep hb3).cell 0)
  have hpl : w.heap.size < w2.heap.size := HR2.out.lt
  have hu4 : Upd (fun j => j = w.heap.size) w3 (w3.setCell ⟨w.heap.size, 0, none⟩ (.slice (some ⟨g3, 0, none⟩) 1 cap3)) := Upd.set w3 _ rfl
  have he4 := he3.upd hu4 (by omega)
  have c4 : (w3.setCell ⟨w.heap.size, 0, none⟩ (.slice (some ⟨g3, 0, none⟩) 1 cap3)).cell? ⟨w.heap.size, 0, none⟩ = some (.slice (some ⟨g3, 0, none⟩) 1 cap3) := set_same y3
  have HB4 : Hid (Below w.heap.size w (w3.setCell ⟨w.heap.size, 0, none⟩ (.slice (some ⟨g3, 0, none⟩) 1 cap3))) := Lib.hid ((HB2.out.trans (hb3.mono HB2.out.size)).trans (hu4.toBelow (Nat.le_trans HB2.out.size hb3.size) (fun k hk e => by omega)))
  have HE4 := Lib.hid (And.intro he4 (And.intro hpl hg3))
  have HC4 := Lib.hid c4
  have hcm : (cap3 : Int) ≤ 9223372036854775807 := by have := he4.l2; unfold maxLen at this; omega
  clear hu4 he4 he3 hb3 z3 y3 hg3 hpl c2 HR2 HB2 HCL
  generalize w3.setCell ⟨w.heap.size, 0, none⟩ (.slice (some ⟨g3, 0, none⟩) 1 cap3) = w4 at *
  have hmk := mkB16' w4
  go_upto_region 10 with (go_at_call 336; (with_reducible refine (HS.out _ _ _ _).mono ?_); rintro e5 w5 ⟨rfl, rfl⟩)
  have hp4 : w.heap.size < w4.heap.size := World.block_lt_of_cell? w4 _ HC4.out
  generalize hz : w4.heap.size = z at *
  obtain ⟨w5, hw5⟩ : ∃ w5, w5 = (((w4.alloc (.cells ((zeros 16).map u8V).toArray 5)).alloc (.cells #[.slice (some ⟨z, 0, none⟩) 16 16] 22)).alloc (.cells #[.int .i64 0] 3)).alloc (.cells #[.func (Fn.func 338) #[] #[.pointer (some ⟨w.heap.size, 0, none⟩), .pointer (some ⟨z + 1 + 1 + 1, 0, none⟩), .pointer (some ⟨z + 1, 0, none⟩), .pointer (some ⟨z + 1 + 1, 0, none⟩)]] 141) := ⟨_, rfl⟩
  rw [← hw5]
  have ra : Row (w4.alloc (.cells ((zeros 16).map u8V).toArray 5)) z 5 ((zeros 16).map u8V).toArray := by rw [← hz]; exact row_new _ _ _
  have rb : Row ((w4.alloc (.cells ((zeros 16).map u8V).toArray 5)).alloc (.cells #[.slice (some ⟨z, 0, none⟩) 16 16] 22)) (z + 1) 22 #[.slice (some ⟨z, 0, none⟩) 16 16] := by
    have := row_new (w4.alloc (.cells ((zeros 16).map u8V).toArray 5)) 22 #[.slice (some ⟨z, 0, none⟩) 16 16]
    simpa [hz] using this
  have rc : Row (((w4.alloc (.cells ((zeros 16).map u8V).toArray 5)).alloc (.cells #[.slice (some ⟨z, 0, none⟩) 16 16] 22)).alloc (.cells #[.int .i64 0] 3)) (z + 1 + 1) 3 #[.int .i64 0] := by
    have := row_new ((w4.alloc (.cells ((zeros 16).map u8V).toArray 5)).alloc (.cells #[.slice (some ⟨z, 0, none⟩) 16 16] 22)) 3 #[.int .i64 0]
    simpa [hz] using this
  have rd : Row w5 (z + 1 + 1 + 1) 141 #[.func (Fn.func 338) #[] #[.pointer (some ⟨w.heap.size, 0, none⟩), .pointer (some ⟨z + 1 + 1 + 1, 0, none⟩), .pointer (some ⟨z + 1, 0, none⟩), .pointer (some ⟨z + 1 + 1, 0, none⟩)]] := by
    have := row_new (((w4.alloc (.cells ((zeros 16).map u8V).toArray 5)).alloc (.cells #[.slice (some ⟨z, 0, none⟩) 16 16] 22)).alloc (.cells #[.int .i64 0] 3)) 141 #[.func (Fn.func 338) #[] #[.pointer (some ⟨w.heap.size, 0, none⟩), .pointer (some ⟨z + 1 + 1 + 1, 0, none⟩), .pointer (some ⟨z + 1, 0, none⟩), .pointer (some ⟨z + 1 + 1, 0, none⟩)]]
    rw [hw5]
    simpa [hz] using this
  have hb5 : Below w4.heap.size w4 w5 := by
    rw [hw5]
    exact ((((Below.refl _ _).alloc (Nat.le_refl _) _).alloc (by simp <;> omega) _).alloc (by simp <;> omega) _).alloc (by simp <;> omega) _
  have ra5 : Row w5 z 5 ((zeros 16).map u8V).toArray := by rw [hw5]; exact ((ra.alloc _).alloc _).alloc _
  have rb5 : Row w5 (z + 1) 22 #[.slice (some ⟨z, 0, none⟩) 16 16] := by rw [hw5]; exact (rb.alloc _).alloc _
  have rc5 : Row w5 (z + 1 + 1) 3 #[.int .i64 0] := by rw [hw5]; exact rc.alloc _
  have he5 := HE4.out.1.keep hb5
  have h51 : w5.cell? ⟨w.heap.size, 0, none⟩ = some (.slice (some ⟨g3, 0, none⟩) 1 cap3) := (hb5.cell (p := ⟨w.heap.size, 0, none⟩) (by rw [hz]; exact hp4)).trans HC4.out
  have h5z : w5.heap.size = z + 1 + 1 + 1 + 1 := by rw [hw5]; simp [hz]
  have hg3 := HE4.out.1.lt
  have h3p := HE4.out.2
  have HLF := Lib.hid (layF_is (gb := z) (p2 := z + 1 + 1 + 1) (p3 := z + 1) (p4 := z + 1 + 1) h51 (rd.cell 0) (rb5.cell 0) rc5 ra5 he5 ⟨by omega, by omega, by omega, by omega, by omega⟩ ⟨by omega, by omega, by omega, by omega⟩)
  have d7 := rd.cell 0
  have HO5 := Lib.hid (rb5.cell 0)
  have HRB := Lib.hid rb5
  have HB5 := Lib.hid (HB4.out.trans (hb5.mono HB4.out.size))
  have HZ := Lib.hid (And.intro hp4 h5z)
  clear ra rb rc rd hb5 ra5 rb5 rc5 he5 h51 h5z hg3 h3p hw5 hmk c4 HC4 HE4 HB4 hz hp4
  go_upto_region 11 with (go_at_call 338; (with_reducible refine HLF.out.mono ?_); rintro e6 w6 ⟨rfl, hk6, hu6⟩)
  have c11 := (HRB.out.upd hu6 (fun e => by omega)).cell 0
  have HF := Lib.hid (And.intro hk6 (hu6.toBelow (B := w.heap.size) (by have := HZ.out; omega) (fun k hk e => by have := HZ.out; omega)))
  clear hk6 hu6
  go_wp2_with fail
  go_ret2
  exact ⟨z, rfl, by have := HZ.out; omega, HF.out.1, HB5.out.trans HF.out.2⟩
end
end Go.Proofs.YtlfemcbfclallaaGreatDoor
namespace Go.Proofs.YtlfemcbfclallaaGreatDoor
open Go.RowKit Go.Maps
set_option linter.unusedVariables false
set_option linter.unusedSimpArgs false
def apE := Builtin.append_ #[30, 30] 30
theorem apE_eq : Builtin.append_ #[30, 30] 30 = apE := rfl
theorem pushE (w : World) : ∃ g c w', (apE #[.slice none 0 0, .slice (some ⟨w.heap.size, 0, none⟩) 1 1]).run Tryz.prog (w.alloc (.cells #[.string ⟨#[102]⟩, .int .i64 2] 390)) = .ok (.slice (some ⟨g, 0, none⟩) 1 c) w' ∧ w.heap.size ≤ g ∧ E1 w' g 0 c ∧ Below w.heap.size w w' := by
  have hal := Go.Joins.below_alloc1 w (.cells #[.string ⟨#[102]⟩, .int .i64 2] 390)
  obtain ⟨i0, hi, hz0, hz1, hz2⟩ := info_parts infoE
  obtain ⟨v', w', hr, ho, hg, -⟩ := run_append_fresh (P := Tryz.prog) (w.alloc (.cells #[.string ⟨#[102]⟩, .int .i64 2] 390)) w.heap.size 30 30 390 i0 _ 2 24 Tryz.underlying30 hi hz0 hz1 hz2 rfl (by decide) (.slice none 0 0) 0 [] (World.ownsRow_nil _ _ _ _) ⟨w.heap.size, 0, none⟩ 1 1 dentC rfl (cells_new w dentC 390) (by intro u hu; simp [dentC] at hu; rcases hu with rfl | rfl <;> rfl) (by unfold maxLen; omega) (by omega) hal.size
  obtain ⟨g, c, rfl, h1, h2⟩ := E1.of_own (show w'.ownsRow w.heap.size 390 2 v' 1 dentC from ho)
  exact ⟨g, c, w', hr, h1, h2, hal.trans ((Below.refl _ _).grown hg hal.size (fun g hgg => by simp [Value.ownBlock] at hgg))⟩
section
attribute [local go_sem ↓] apE_eq
set_option maxRecDepth 100000 in
set_option maxHeartbeats 1000000 in
theorem walkF_is {w : World} {p1 p2 p3 p4 b o c : Nat} (h1 : w.cell? ⟨p1, 0, none⟩ = some (.int .i64 1)) (h2 : w.cell? ⟨p2, 0, none⟩ = some (.func (Fn.func 300) #[] #[.pointer (some ⟨p1, 0, none⟩), .pointer (some ⟨p2, 0, none⟩), .pointer (some ⟨p3, 0, none⟩), .pointer (some ⟨p4, 0, none⟩)])) (h3 : Row w p3 30 #[.slice none 0 0]) (h4 : w.cell? ⟨p4, 0, none⟩ = some (.slice (some ⟨b, o, none⟩) 16 c)) (hv : At (Value.int .u8) 0 w (.slice (some ⟨b, o, none⟩) 16 c) entL)
    (n1 : p1 ≠ p3 ∧ p2 ≠ p3 ∧ p4 ≠ p3) :
    Calls Tryz.prog 300 #[.int .i64 0, .pointer (some ⟨p1, 0, none⟩), .pointer (some ⟨p2, 0, none⟩), .pointer (some ⟨p3, 0, none⟩), .pointer (some ⟨p4, 0, none⟩)] w fun e w' => e = .returned (.tuple #[]) ∧ ∃ g cap, Row w' p3 30 #[.slice (some ⟨g, 0, none⟩) 1 cap] ∧ w.heap.size ≤ g ∧ E1 w' g 0 cap ∧ Upd (fun j => j = p3) w w' := by
  have HW1 : Hid (Calls Tryz.prog 300 #[.int .i64 1, .pointer (some ⟨p1, 0, none⟩), .pointer (some ⟨p2, 0, none⟩), .pointer (some ⟨p3, 0, none⟩), .pointer (some ⟨p4, 0, none⟩)] w fun e w' => e = .returned (.tuple #[]) ∧ w = w') := Lib.hid (walkE_is (n := 1) h1 (k := 1) (Nat.le_refl _))
  have HRW := Lib.hid (row_is (w := w.drew) (hv.keep (Below.refl _ _).drew))
  have HH := Lib.hid (And.intro h1 (And.intro h2 (And.intro h3 h4)))
  have HN := Lib.hid n1
  have HP := Lib.hid pushE
  have q3 := h3.cell 0
  clear hv n1 h3
  go_enter Tryz.func300, Tryz.ntmps300
  go_upto_region 2 with (go_at_call 300; (with_reducible refine HW1.out.mono ?_); rintro e1 w1 ⟨rfl, rfl⟩)
  go_region_law (go_simp; go_at_call 268; refine HRW.out.mono ?_; rintro e2 w2 ⟨rfl, hb2⟩; have r2 := HH.out.2.2.1.drew.keep hb2; obtain ⟨g, cap, w3, hap, hg, he, hb3⟩ := HP.out w2; have r2a := r2.alloc (.cells #[.string ⟨#[102]⟩, .int .i64 2] 390); have r3 := r2.keep hb3; have y2 := r2.cell 0; have y2a := r2a.cell 0; have y3 := r3.cell 0; have z3 := r3.fz 0; have HB3 : Hid (Below w.heap.size w w3) := Lib.hid ((Below.refl _ _).drew.trans (hb2.trans (hb3.mono hb2.size))); have HE3 := Lib.hid (And.intro hg (And.intro he (And.intro r3 hb2.size))); clear r2 r2a r3 hb2 hb3 he hg)
  all_goals
    obtain ⟨hg, he, r3, hs2⟩ := HE3.out
    have hu : Upd (fun j => j = p3) w3 (w3.setCell ⟨p3, 0, none⟩ (.slice (some ⟨g, 0, none⟩) 1 cap)) := Upd.set w3 _ rfl
    have lt1 := World.block_lt_of_cell? w _ HH.out.1
    have lt2 := World.block_lt_of_cell? w _ HH.out.2.1
    have lt3 : p3 < w.heap.size := HH.out.2.2.1.lt
    have hz2 : w.heap.size ≤ g := Nat.le_trans hs2 hg
    have h13 := (HB3.out.cell (p := ⟨p1, 0, none⟩) lt1).trans HH.out.1
    have h23 := (HB3.out.cell (p := ⟨p2, 0, none⟩) lt2).trans HH.out.2.1
    have h14 := (hu.cell (o := 0) (World.block_lt_of_cell? w3 _ h13) HN.out.1).trans h13
    have h24 := (hu.cell (o := 0) (World.block_lt_of_cell? w3 _ h23) HN.out.2.1).trans h23
    have r4 : Row (w3.setCell ⟨p3, 0, none⟩ (.slice (some ⟨g, 0, none⟩) 1 cap)) p3 30 #[.slice (some ⟨g, 0, none⟩) 1 cap] := by
      rw [r3.setCell]
      exact r3.setRow _
    have he4 := he.upd hu (by omega)
    have HF := Lib.hid (And.intro r4 (And.intro hz2 (And.intro he4 ((Upd.below (S := fun j => j = p3) HB3.out).trans hu))))
    have HW2 : Hid (Calls Tryz.prog 300 #[.int .i64 2, .pointer (some ⟨p1, 0, none⟩), .pointer (some ⟨p2, 0, none⟩), .pointer (some ⟨p3, 0, none⟩), .pointer (some ⟨p4, 0, none⟩)] (w3.setCell ⟨p3, 0, none⟩ (.slice (some ⟨g, 0, none⟩) 1 cap)) fun e w' => e = .returned (.tuple #[]) ∧ w3.setCell ⟨p3, 0, none⟩ (.slice (some ⟨g, 0, none⟩) 1 cap) = w') := Lib.hid (walkE_is (n := 1) h14 (k := 2) (by decide))
    clear hu r4 hz2 he4 h14 lt1 lt2 lt3 h13 h23 y2 y2a y3 z3 hg he r3 hs2 hap q3 h1 h2 h4 HRW HW1
    go_wp2_with (go_at_call 300; (with_reducible refine HW2.out.mono ?_); rintro e1 w4 ⟨rfl, rfl⟩)
    (try simp only [Exit.inBlock, Exit.then]); first | (refine bodyPost_ret (results_none rfl _ _ _) rfl ?_) | (refine bodyPost_end (results_none rfl _ _ _) rfl ?_)
    exact ⟨rfl, g, cap, HF.out⟩
end
end Go.Proofs.YtlfemcbfclallaaGreatDoor
namespace Go.Proofs.YtlfemcbfclallaaGreatDoor
open Go.RowKit Go.Maps
set_option linter.unusedVariables false
set_option linter.unusedSimpArgs false
section
attribute [local go_sem ↓] apE_eq
set_option maxRecDepth 100000 in
set_option maxHeartbeats 1000000 in
theorem list1_is {w : World} {b o c : Nat} (hv : At (Value.int .u8) 0 w (.slice (some ⟨b, o, none⟩) 16 c) entL) : Calls Tryz.prog 246 #[.slice (some ⟨b, o, none⟩) 16 c] w fun e w' => ∃ g cap, e = .returned (.tuple #[.slice (some ⟨g, 0, none⟩) 1 cap, .int .i64 0]) ∧ w.heap.size ≤ g ∧ E1 w' g 0 cap ∧ Below w.heap.size w w' := by
  obtain ⟨z, hz⟩ : ∃ z, z = w.heap.size := ⟨_, rfl⟩
  obtain ⟨w4, hw4⟩ : ∃ w4, w4 = (((w.alloc (.cells #[.slice (some ⟨b, o, none⟩) 16 c] 22)).alloc (.cells #[.int .i64 1] 3)).alloc (.cells #[.slice none 0 0] 30)).alloc (.cells #[.func (Fn.func 300) #[] #[.pointer (some ⟨z + 1, 0, none⟩), .pointer (some ⟨z + 1 + 1 + 1, 0, none⟩), .pointer (some ⟨z + 1 + 1, 0, none⟩), .pointer (some ⟨z, 0, none⟩)]] 141) := ⟨_, rfl⟩
  have ra : Row (w.alloc (.cells #[.slice (some ⟨b, o, none⟩) 16 c] 22)) z 22 #[.slice (some ⟨b, o, none⟩) 16 c] := by rw [hz]; exact row_new _ _ _
  have rb : Row ((w.alloc (.cells #[.slice (some ⟨b, o, none⟩) 16 c] 22)).alloc (.cells #[.int .i64 1] 3)) (z + 1) 3 #[.int .i64 1] := by
    have := row_new (w.alloc (.cells #[.slice (some ⟨b, o, none⟩) 16 c] 22)) 3 #[.int .i64 1]
    simpa [← hz] using this
  have rc : Row (((w.alloc (.cells #[.slice (some ⟨b, o, none⟩) 16 c] 22)).alloc (.cells #[.int .i64 1] 3)).alloc (.cells #[.slice none 0 0] 30)) (z + 1 + 1) 30 #[.slice none 0 0] := by
    have := row_new ((w.alloc (.cells #[.slice (some ⟨b, o, none⟩) 16 c] 22)).alloc (.cells #[.int .i64 1] 3)) 30 #[.slice none 0 0]
    simpa [← hz] using this
  have rd : Row w4 (z + 1 + 1 + 1) 141 #[.func (Fn.func 300) #[] #[.pointer (some ⟨z + 1, 0, none⟩), .pointer (some ⟨z + 1 + 1 + 1, 0, none⟩), .pointer (some ⟨z + 1 + 1, 0, none⟩), .pointer (some ⟨z, 0, none⟩)]] := by
    have := row_new (((w.alloc (.cells #[.slice (some ⟨b, o, none⟩) 16 c] 22)).alloc (.cells #[.int .i64 1] 3)).alloc (.cells #[.slice none 0 0] 30)) 141 #[.func (Fn.func 300) #[] #[.pointer (some ⟨z + 1, 0, none⟩), .pointer (some ⟨z + 1 + 1 + 1, 0, none⟩), .pointer (some ⟨z + 1 + 1, 0, none⟩), .pointer (some ⟨z, 0, none⟩)]]
    rw [hw4]
    simpa [← hz] using this
  have hb4 : Below w.heap.size w w4 := by
    rw [hw4]
    exact ((((Below.refl _ _).alloc (Nat.le_refl _) _).alloc (by simp <;> omega) _).alloc (by simp <;> omega) _).alloc (by simp <;> omega) _
  have ra4 : Row w4 z 22 #[.slice (some ⟨b, o, none⟩) 16 c] := by rw [hw4]; exact ((ra.alloc _).alloc _).alloc _
  have rb4 : Row w4 (z + 1) 3 #[.int .i64 1] := by rw [hw4]; exact (rb.alloc _).alloc _
  have rc4 : Row w4 (z + 1 + 1) 30 #[.slice none 0 0] := by rw [hw4]; exact rc.alloc _
  have h4z : w4.heap.size = z + 1 + 1 + 1 + 1 := by rw [hw4]; simp [← hz]
  have hv4 := hv.keep hb4
  have HWF := Lib.hid (walkF_is (p2 := z + 1 + 1 + 1) (rb4.cell 0) (rd.cell 0) rc4 (ra4.cell 0) hv4 ⟨by omega, by omega, by omega⟩)
  have d3 := rd.cell 0
  have HH := Lib.hid (And.intro ra4 (And.intro rb4 (And.intro hb4 (And.intro h4z hv4))))
  have hcm : (c : Int) ≤ 9223372036854775807 := by
    obtain ⟨a', cap', e1, e2, e3, e4⟩ := hv
    injection e1 with e1 e5 e6
    unfold maxLen at e3; omega
  have q1 : (16 : Int).tmod 16 = 0 := by decide
  have q2 : (16 : Int).tdiv 16 = 1 := by decide
  have hbw : b < w.heap.size := by
    rcases At.cellB hv with e | ⟨b', o', e, hlt, hc⟩
    · cases e
    · injection e with e
      injection e with e1 e2 _
      subst e1
      exact hlt
  have HZ := Lib.hid (And.intro hz (And.intro hw4 hbw))
  clear hv ra rb rc rd ra4 rb4 rc4 hb4 h4z hv4 hz hw4 hbw
  go_enter Tryz.func246, Tryz.ntmps246
  go_upto_region 7 with fail
  rw [← HZ.out.1, ← HZ.out.2.1]
  go_upto_region 8 with (go_at_call 300; (with_reducible refine HWF.out.mono ?_); rintro e5 w5 ⟨rfl, g, cap, r5, hg, he5, hu5⟩)
  have c5 := r5.cell 0
  have ra5 := HH.out.1.upd hu5 (by omega)
  have HL := Lib.hid (lay1_is he5)
  have HE5 := Lib.hid (And.intro hg (And.intro he5 (And.intro r5 (And.intro hu5 ra5))))
  have hvb : At (Value.int .u8) 0 w5 (.slice (some ⟨b, o, none⟩) 16 c) entL := HH.out.2.2.2.2.upd8 hu5 (fun j e q => by
    injection e with e
    have q : j = z + 1 + 1 := q
    have h1 := HZ.out.1
    have h2 := HZ.out.2.2
    have e : b = j := e
    omega)
  have HVB := Lib.hid hvb
  clear hg he5 r5 hu5 ra5 d3 HWF hvb
  go_upto_region 9 with (go_at_call 301; (with_reducible refine HL.out.mono ?_); rintro e6 w6 ⟨gb, rfl, hgb, hk6, hb6⟩)
  have r6 := HE5.out.2.2.1.keep hb6
  have ra6 := HE5.out.2.2.2.2.keep hb6
  have c6 := r6.cell 0
  have d6 := ra6.cell 0
  have ha6 : At (Value.int .u8) 0 w6 (.slice (some ⟨gb, 0, none⟩) 16 16) entL := by
    have := (ob_of_bk (B := 0) (c := 16) hk6 (Nat.zero_le _) (by decide) rfl).at
    exact this
  have HEQ := Lib.hid (equalB_is (by decide) ha6 (HVB.out.keep hb6))
  have HE6 := Lib.hid (And.intro (HE5.out.2.1.keep hb6) (And.intro r6 (And.intro hb6 HE5.out.2.2.2.1)))
  have HG := Lib.hid HE5.out.1
  clear r6 ra6 ha6 hgb hk6 hb6 c5 HL HE5
  go_wp2_with (go_at_call 10; (with_reducible refine HEQ.out.mono ?_); rintro e7 w7 ⟨rfl, hb7⟩; have c7 := (HE6.out.2.1.keep hb7).cell 0; have HB7 := Lib.hid hb7; clear hb7)
  go_ret2
  have hs6 := HE6.out.2.2.1.size
  have hu := HE6.out.2.2.2.toBelow (B := w.heap.size) HH.out.2.2.1.size (fun k hk e => by have h1 := HZ.out.1; have e : k = z + 1 + 1 := e; omega)
  have hb5 := HH.out.2.2.1.trans hu
  have hb6 := hb5.trans (HE6.out.2.2.1.mono hb5.size)
  exact ⟨g, cap, rfl, by have := HG.out; have := HH.out.2.2.2.1; have := HZ.out.1; omega, HE6.out.1.keep HB7.out, hb6.trans (HB7.out.mono hb6.size)⟩
set_option maxRecDepth 100000 in
set_option maxHeartbeats 400000 in
theorem find0_is (w : World) (s : ByteArray) : Calls Tryz.prog 205 #[.slice none 0 0, .string s] w fun e w' => e = .returned (.tuple #[.int .i64 0, .int .i64 0, .int .i64 4]) ∧ Below w.heap.size w w' := by
  have HL := Lib.hid (list0_is w)
  go_enter Tryz.func205, Tryz.ntmps205
  go_wp2_with (go_at_call 246; (with_reducible refine HL.out.mono ?_); rintro e1 w1 ⟨rfl, hb1⟩)
  refine wp_loop_rounds 1 ?_
  rw [rounds_succ]
  go_wp2_with fail
  first | go_ret3 | go_ret
  exact ⟨rfl, hb1⟩
set_option maxRecDepth 100000 in
set_option maxHeartbeats 800000 in
theorem find1_is {w : World} {b o c : Nat} (hv : At (Value.int .u8) 0 w (.slice (some ⟨b, o, none⟩) 16 c) entL) : Calls Tryz.prog 205 #[.slice (some ⟨b, o, none⟩) 16 c, .string ⟨#[102]⟩] w fun e w' => e = .returned (.tuple #[.int .i64 2, .int .i64 1, .int .i64 0]) ∧ Below w.heap.size w w' := by
  have HL := Lib.hid (list1_is hv)
  have HV := Lib.hid hv
  have HC := Lib.hid (fun w => cmpS_is w)
  clear hv
  go_enter Tryz.func205, Tryz.ntmps205
  go_wp2_with (go_at_call 246; (with_reducible refine HL.out.mono ?_); rintro e1 w1 ⟨g, cap, rfl, hg, he, hb1⟩)
  have HB1 := Lib.hid hb1
  have HR := Lib.hid (row_is (HV.out.keep hb1))
  clear hg he hb1 HL
  refine wp_loop_rounds 2 ?_
  rw [rounds_succ]
  go_wp2_with (first | (go_at_call 268; (with_reducible refine HR.out.mono ?_); rintro e2 w2 ⟨rfl, hb2⟩; have HB2 := Lib.hid (HB1.out.trans (hb2.mono HB1.out.size)); clear hb2) | (go_at_call 269; (with_reducible refine (HC.out _).mono ?_); rintro e2 w3 ⟨rfl, rfl⟩))
  first | go_ret3 | go_ret
  exact ⟨rfl, HB2.out.alloc HB2.out.size _⟩
set_option maxRecDepth 100000 in
set_option maxHeartbeats 800000 in
theorem put0_is (w : World) : Calls Tryz.prog 270 #[.slice none 0 0, .agg #[.string ⟨#[102]⟩, .int .i64 2]] w fun e w' => ∃ gb, e = .returned (.tuple #[.slice (some ⟨gb, 0, none⟩) 16 16, .int .i64 0]) ∧ w.heap.size ≤ gb ∧ BK w' gb entL ∧ Below w.heap.size w w' := by
  have HB := Lib.hid (Go.Joins.below_alloc1 w (.cells #[.string ⟨#[102]⟩, .int .i64 2] 390))
  have HR := Lib.hid (row_new w 390 #[.string ⟨#[102]⟩, .int .i64 2])
  have HL := Lib.hid (list0_is (w.alloc (.cells #[.string ⟨#[102]⟩, .int .i64 2] 390)))
  have HN := Lib.hid (fun w => name_is w)
  have HC := Lib.hid (fun w a c f => con0_is w a c f)
  have HP := Lib.hid pushE
  go_enter Tryz.func270, Tryz.ntmps270
  go_upto_region 1 with fail
  generalize w.alloc (.cells #[.string ⟨#[102]⟩, .int .i64 2] 390) = w1 at *
  go_upto_region 4 with (go_at_call 246; (with_reducible refine HL.out.mono ?_); rintro e2 w2 ⟨rfl, hb2⟩)
  have r2 := HR.out.keep hb2
  have c0 := r2.cell 0
  have c1 := r2.cell 1
  have HB2 := Lib.hid (HB.out.trans (hb2.mono HB.out.size))
  clear hb2 r2 HL HR HB
  go_upto_region 10 with (first | (go_at_call 203; (with_reducible refine (HN.out _).mono ?_); rintro e1 w3 ⟨rfl, rfl⟩) | (go_at_call 318; (with_reducible refine (HC.out _ _ _ _).mono ?_); rintro e1 w3 ⟨rfl, rfl⟩))
  obtain ⟨g, cap, w4, hap, hg, he, hb4⟩ := HP.out w2
  have HL1 := Lib.hid (lay1_is he)
  have HB4 := Lib.hid (HB2.out.trans (hb4.mono HB2.out.size))
  clear hg he hb4
  go_wp2_with (go_at_call 301; (with_reducible refine HL1.out.mono ?_); rintro e5 w5 ⟨gb, rfl, hgb, hk5, hb5⟩)
  go_ret2
  exact ⟨gb, rfl, Nat.le_trans HB4.out.size hgb, hk5, HB4.out.trans (hb5.mono HB4.out.size)⟩
end
end Go.Proofs.YtlfemcbfclallaaGreatDoor
