/- The walk of the law PathUp. -/
import Derived.Test.YtjkephmfpoekgaaDoorPathUp
namespace Go.Proofs.YtjkephmfpoekgaaDoor.PathLaw
open Go.RowKit Go.Proofs.YtjkephmfpoekgaaDoor.CredLaw
set_option linter.unusedVariables false
set_option linter.unusedSimpArgs false
/-- the boxes of a law on ways -/
structure BX (W0 w : World) (b : Nat) (nv mv : Value) (c : C) : Prop where
  be : Below W0.heap.size W0 w
  c0 : w.cell? ⟨b, 0, none⟩ = some nv
  d0 : w.cell? ⟨b + 1, 0, none⟩ = some (.int .i64 c.user)
  d1 : w.cell? ⟨b + 1, 1, none⟩ = some (.int .i64 c.group)
  d2 : w.cell? ⟨b + 1, 2, none⟩ = some mv
  d3 : w.cell? ⟨b + 1, 3, none⟩ = some (.int .i64 c.caps)
  d4 : w.cell? ⟨b + 1, 4, none⟩ = some (.int .i64 c.level)
  d5 : w.cell? ⟨b + 1, 5, none⟩ = some (.int .i64 c.kind)
  lt : b + 1 < w.heap.size
theorem BX.keep {W0 w w' : World} {b : Nat} {nv mv : Value} {c : C} (h : BX W0 w b nv mv c) (hb : Below w.heap.size w w') : BX W0 w' b nv mv c := by
  have k : ∀ {o v}, w.cell? ⟨b + 1, o, none⟩ = some v → w'.cell? ⟨b + 1, o, none⟩ = some v := fun hc => (hb.cell (p := ⟨b + 1, _, none⟩) h.lt).trans hc
  exact ⟨h.be.trans (hb.mono h.be.size), (hb.cell (p := ⟨b, 0, none⟩) (by have := h.lt; show b < _; omega)).trans h.c0, k h.d0, k h.d1, k h.d2, k h.d3, k h.d4, k h.d5, Nat.lt_of_lt_of_le h.lt hb.size⟩
theorem BX.new (w : World) (nv mv : Value) (c : C) : BX w ((w.alloc (.cells #[nv] 24)).alloc (.cells #[.int .i64 c.user, .int .i64 c.group, mv, .int .i64 c.caps, .int .i64 c.level, .int .i64 c.kind] 27)) w.heap.size nv mv c := by
  have h0 := blk (heap_alloc_new w (.cells #[nv] 24)) (.cells #[.int .i64 c.user, .int .i64 c.group, mv, .int .i64 c.caps, .int .i64 c.level, .int .i64 c.kind] 27)
  have h1 := heap_alloc_new (w.alloc (.cells #[nv] 24)) (.cells #[.int .i64 c.user, .int .i64 c.group, mv, .int .i64 c.caps, .int .i64 c.level, .int .i64 c.kind] 27)
  rw [World.size_alloc] at h1
  have k : ∀ j u, (#[.int .i64 c.user, .int .i64 c.group, mv, .int .i64 c.caps, .int .i64 c.level, .int .i64 c.kind] : Array Value)[j]? = some u → ((w.alloc (.cells #[nv] 24)).alloc (.cells #[.int .i64 c.user, .int .i64 c.group, mv, .int .i64 c.caps, .int .i64 c.level, .int .i64 c.kind] 27)).cell? ⟨w.heap.size + 1, j, none⟩ = some u := fun j u hj => by rw [cell_of_row _ _ _ _ _ _ h1]; exact hj
  exact ⟨Go.Joins.below_alloc2 _ _ _, by rw [cell_of_row _ _ _ _ _ _ h0]; rfl, k 0 _ rfl, k 1 _ rfl, k 2 _ rfl, k 3 _ rfl, k 4 _ rfl, k 5 _ rfl, by simp⟩
theorem contains47 (s : List UInt8) (h : Lib.contains s [47] = false) : ∀ x ∈ s, x ≠ 47 := by
  unfold Lib.contains at h
  rcases index_spec1 s with ⟨h1, h2⟩ | ⟨i, h1, -, -⟩
  · intro x hx hx47
    subst hx47
    have hm := List.mem_iff_append.1 hx
    obtain ⟨a, b, rfl⟩ := hm
    rw [parts_append] at h2
    have := congrArg List.length h2
    have n1 := List.length_pos_iff.2 (parts_ne a)
    have n2 := List.length_pos_iff.2 (parts_ne b)
    simp at this
    omega
  · rw [h1] at h
    simp at h
attribute [local go_sem ↓] load36_eq store36_eq zero36 cellsS_of
attribute [local go_sem] store36_new load36_new
set_option maxRecDepth 100000 in
set_option maxHeartbeats 1000000 in
theorem pathup_any {w : World} {T : List Nd} {tv : Value} {c : C} {mv cv : Value} {cwd : List Int} {s : ByteArray} {m : Int} (ht : TreeS w tv T) (hmo : At (Value.int .i64) 0 w mv c.xs) (hcw : At (Value.int .i64) 0 w cv cwd) (hbig : cwd.length ≤ 17592186044416) (hm : w.cell? ⟨0, 0, none⟩ = some (.int .i64 m)) :
    Calls Tryd.prog 4 #[tv, encC c mv, cv, .string s] w fun e w' => e = .returned (.bool true) ∧ Below w.heap.size w w' := by
  obtain ⟨na, nc, rfl, -⟩ := id ht
  have hbx := BX.new w (.slice na T.length nc) mv c
  obtain ⟨ca, cc, rfl, hcl, hccap, hcc⟩ := id hcw
  have hmx : (cc : Int) ≤ 9223372036854775807 := by have : cc ≤ maxLen := hccap; unfold maxLen at this; omega
  have hwy := fun (wx : World) (hb : Below w.heap.size w wx) (f : Bool) (s' : ByteArray) => way_is (c := c) (s := s') f (ht.keep hb) (hmo.keep hb) (hcw.keep hb) hbig ((hb.cell (p := ⟨0, 0, none⟩) (World.block_lt_of_cell? w _ hm)).trans hm)
  have hpa := fun (wx : World) (hb : Below w.heap.size w wx) => paths_is (w := wx) ((hb.cell (p := ⟨0, 0, none⟩) (World.block_lt_of_cell? w _ hm)).trans hm)
  have hco := fun (wx : World) (hb : Below w.heap.size w wx) (h14 : s.size ≤ 14) => (Tryd.strings_Contains s ⟨#[47]⟩ m wx (by omega) ((hb.cell (p := ⟨0, 0, none⟩) (World.block_lt_of_cell? w _ hm)).trans hm)).mono (R' := fun e w' => e = .returned (.bool (Lib.contains s.data.toList (⟨#[47]⟩ : ByteArray).data.toList)) ∧ wx = w') fun e w' ⟨h1, h2⟩ => ⟨h1, h2.symm⟩
  have hU1 := fun h => up_root (F := fsT T) (c := c) (cwd := cwd) h
  simp only [encC] at hwy ⊢
  have HBX := Lib.hid hbx
  have HWY := Lib.hid hwy
  have HPA := Lib.hid hpa
  have HCO := Lib.hid hco
  have HTR := Lib.hid ht
  have HCW := Lib.hid hcw
  have HU1 := Lib.hid hU1
  clear hbx hwy hpa hco ht hmo hcw hm hU1 hcc
  go_enter Tryd.func4, Tryd.ntmps4
  go_upto_region 3 with (go_at_call 6; refine (HPA.out _ HBX.out.be).mono ?_; rintro e1 w1 ⟨rfl, hb1⟩)
  have HX1 := Lib.hid (HBX.out.keep hb1)
  clear hb1 HPA HBX
  by_cases h0 : s.size = 0
  · have d0 : ((s.size : Int) == 0) = true := by simp [h0]
    clear h0
    go_wp2_with fail
    go_ret
    exact ⟨rfl, HX1.out.be⟩
  · have d0 : ((s.size : Int) == 0) = false := by simp [h0]
    by_cases h14 : 14 < s.size
    · have i1 : (14 : Int) < (s.size : Int) := by omega
      clear h0
      go_wp2_with fail
      go_ret
      exact ⟨rfl, HX1.out.be⟩
    · have i1 : ¬ ((14 : Int) < (s.size : Int)) := by omega
      have hco := HCO.out w1 HX1.out.be (by omega)
      cases hct : Lib.contains s.data.toList (⟨#[47]⟩ : ByteArray).data.toList
      · rw [hct] at hco
        have HC := Lib.hid hco
        have HCT := Lib.hid hct
        have H0 := Lib.hid h0
        have H14 := Lib.hid h14
        clear hco hct h0 h14 HCO
        cases hd : (s.toList == [46])
        · cases hu : (s.toList == [46, 46])
          · have HUB := Lib.hid (fun he hf => up_back (F := fsT T) (c := c) (cwd := cwd) (s := s.data.toList) (fun e => H0.out (by have := congrArg List.length e; simpa using this)) (by have := H14.out; simp; omega) (contains47 _ HCT.out) (by rw [← Lib.toList_data]; simpa using hd) (by rw [← Lib.toList_data]; simpa using hu) he hf)
            go_upto_region 5 with (go_at_call 9; refine HC.out.mono ?_; rintro e2 w2 ⟨rfl, rfl⟩)
            have b0 := HX1.out.c0
            have b1 := HX1.out.d0
            have b2 := HX1.out.d1
            have b3 := HX1.out.d2
            have b4 := HX1.out.d3
            have b5 := HX1.out.d4
            have b6 := HX1.out.d5
            go_upto_region 6 with (go_at_call 7; refine (HWY.out w1 HX1.out.be _ _).mono ?_; rintro e1 w2 ⟨v1, rfl, hb1, ho1⟩; obtain ⟨a1, k1, rfl⟩ := own_form ho1)
            have HX2 := Lib.hid (HX1.out.keep hb1)
            have HO11 := Lib.hid ho1
            clear b0 b1 b2 b3 b4 b5 b6 ho1 hb1
            have b0 := HX2.out.c0
            have b1 := HX2.out.d0
            have b2 := HX2.out.d1
            have b3 := HX2.out.d2
            have b4 := HX2.out.d3
            have b5 := HX2.out.d4
            have b6 := HX2.out.d5
            go_upto_region 7 with (go_at_call 7; refine (HWY.out w2 HX2.out.be _ _).mono ?_; rintro e2 w3 ⟨v2, rfl, hb2, ho2⟩; obtain ⟨a2, k2, rfl⟩ := own_form ho2)
            have HX3 := Lib.hid (HX2.out.keep hb2)
            have HO12 := Lib.hid (owns_keep HO11.out hb2)
            have HO22 := Lib.hid ho2
            clear b0 b1 b2 b3 b4 b5 b6 ho2 hb2 HO11
            have b0 := HX3.out.c0
            have b1 := HX3.out.d0
            have b2 := HX3.out.d1
            have b3 := HX3.out.d2
            have b4 := HX3.out.d3
            have b5 := HX3.out.d4
            have b6 := HX3.out.d5
            go_upto_region 8 with (go_at_call 7; refine (HWY.out w3 HX3.out.be _ _).mono ?_; rintro e3 w4 ⟨v3, rfl, hb3, ho3⟩; obtain ⟨a3, k3, rfl⟩ := own_form ho3)
            have HX4 := Lib.hid (HX3.out.keep hb3)
            have HO13 := Lib.hid (owns_keep HO12.out hb3)
            have HO23 := Lib.hid (owns_keep HO22.out hb3)
            have HO33 := Lib.hid ho3
            clear b0 b1 b2 b3 b4 b5 b6 ho3 hb3 HO12 HO22
            -- MAIN
            have hap : (s ++ (⟨#[47, 46, 46]⟩ : ByteArray)).data.toList = s.data.toList ++ [47, 46, 46] := by simp
            rw [hap] at HO23
            clear hap
            generalize wayT (fsT T) c false cwd s.data.toList = A at *
            generalize wayT (fsT T) c false cwd (s.data.toList ++ [47, 46, 46]) = B at *
            generalize wayT (fsT T) c true cwd [47, 46, 46] = D at *
            obtain ⟨e, L⟩ := A
            obtain ⟨f, M⟩ := B
            obtain ⟨g, TP⟩ := D
            dsimp only at *
            by_cases hg : g = 0
            · subst hg
              obtain ⟨hne, rfl⟩ := HU1.out rfl
              have hl1 : (cwd.take 1).length = 1 := by rw [List.length_take]; have := List.length_pos_iff.2 hne; omega
              obtain ⟨g3, c3, hv3, q0, q1, q2, q3⟩ := StkO.top HO33.out (by intro e; rw [e] at hl1; cases hl1)
              have htp : topT (cwd.take 1) = cwd.getD 0 0 := by
                cases cwd with
                | nil => exact absurd rfl hne
                | cons x y => rfl
              rw [htp, hl1] at q3
              simp only [Value.slice.injEq] at hv3
              obtain ⟨rfl, -, rfl⟩ := hv3
              rw [hl1] at q1 ⊢
              obtain ⟨ca', cc', hcv, -, -, hcc⟩ := HCW.out.keep HX4.out.be
              simp only [Value.slice.injEq] at hcv
              obtain ⟨rfl, -, rfl⟩ := hcv
              rcases hcc with hcc | ⟨cb, co, rfl, -, hcc⟩
              · exact absurd hcc hne
              · have hlp := List.length_pos_iff.2 hne
                have x0 := hcc 0 hlp
                rw [Nat.add_zero] at x0
                have z0 : ((cwd.length : Int) == 0) = false := by rw [beq_eq_false_iff_ne]; omega
                have z1 : (0 : Int) < (cwd.length : Int) := by omega
                have q3 : w4.cell? ⟨g3, 0, none⟩ = some (.int .i64 (cwd.getD 0 0)) := q3
                clear hcc hl1 htp q0 q1 q2 hne hlp
                generalize cwd.getD 0 0 = x at *
                go_quiet (fail)
                clear x0 q3 z0 z1
                have HX5 := Lib.hid (HX4.out.keep (below_drewN (Below.refl _ _) nq))
                have HO15 := Lib.hid (owns_keep HO13.out (below_drewN (Below.refl _ _) nq))
                have HO25 := Lib.hid (owns_keep HO23.out (below_drewN (Below.refl _ _) nq))
                clear HO13 HO23 HO33 HX4
                generalize w4.drewN nq = w5 at *
                by_cases he : e = 0
                · subst he
                  by_cases hf : f = 0
                  · subst hf
                    obtain ⟨n, rfl, hn2, hk⟩ := HUB.out rfl rfl
                    have hll : (cwd ++ [n]).length = cwd.length + 1 := by simp
                    obtain ⟨g1, c1, hv1, q0, q1, q2, q3⟩ := StkO.top (show StkO w5 w1.heap.size _ (cwd ++ [n]) from HO15.out) (by simp)
                    have htp : topT (cwd ++ [n]) = n := by simp [topT]
                    rw [htp, hll, Nat.add_sub_cancel] at q3
                    simp only [Value.slice.injEq] at hv1
                    obtain ⟨rfl, -, rfl⟩ := hv1
                    rw [hll]
                    have HSTA := Lib.hid (stat_row n (HTR.out.keep HX5.out.be))
                    have y1 : IntKind.i64.wrap ((cwd.length : Int) + 1) = (cwd.length : Int) + 1 := IntWalk.i64_in _ (by omega)
                    have y2 : IntKind.i64.wrap ((cwd.length : Int) + 1 - 1) = (cwd.length : Int) := by rw [IntWalk.i64_in _ (by omega)]; omega
                    have y3 : (cwd.length : Int) < (cwd.length : Int) + 1 := by omega
                    have y4 : (0 : Int) ≤ (cwd.length : Int) := by omega
                    rcases hq : (fsT T).stat n with ⟨st, z⟩
                    rw [hq] at hn2 hk HSTA
                    dsimp only at hn2 hk HSTA
                    subst hn2
                    have HK := Lib.hid hk
                    clear hk hq htp hll q0 q1 q2 HUB HO15
                    have b0 := HX5.out.c0
                    go_upto_region 14 with (go_at_call 10; refine HSTA.out.mono ?_; rintro e6 w6 ⟨rfl, hb6⟩)
                    have hb7 := hb6.alloc hb6.size (.cells (cellsS st) 36)
                    have k0 : (w6.alloc (.cells (cellsS st) 36)).cell? ⟨w6.heap.size, 0, none⟩ = some (.int .i64 st.kind) := (row_new w6 36 (cellsS st)).cell 0
                    revert hb7 k0
                    generalize w6.alloc (.cells (cellsS st) 36) = w7
                    intro hb7 k0
                    have HX7 := Lib.hid (HX5.out.keep hb7)
                    by_cases hk3 : st.kind = 3
                    · have hb3' : (st.kind == 3) = true := by simp [hk3]
                      clear hk3 b0 q3 hb6 hb7
                      go_wp2_with fail
                      go_ret
                      exact ⟨rfl, HX7.out.be⟩
                    · have hb3' : (st.kind == 3) = false := by simp [hk3]
                      obtain rfl : M = cwd := by
                        rcases HK.out with h | h
                        · exact absurd h hk3
                        · exact h
                      have heq := eq_ints (StkO.at (show StkO w7 w2.heap.size _ M from owns_keep HO25.out hb7)) (HCW.out.keep HX7.out.be)
                      rw [show (M == M) = true by simp] at heq
                      have HEQ := Lib.hid heq
                      clear hk3 b0 q3 hb6 hb7 heq
                      go_wp2_with (go_at_call 8; refine HEQ.out.mono ?_; rintro e8 w8 ⟨rfl, q, rfl⟩)
                      go_ret
                      exact ⟨rfl, below_drewN HX7.out.be q⟩
                  · have hf' : (f != 0) = true := by simp [hf]
                    clear hf
                    go_wp2_with fail
                    go_ret
                    exact ⟨rfl, HX5.out.be⟩
                · have he' : (e != 0) = true := by simp [he]
                  clear he
                  go_wp2_with fail
                  go_ret
                  exact ⟨rfl, HX5.out.be⟩
            · have hg' : (g == 0) = false := by simp [hg]
              clear hg
              go_quiet (fail)
              have HX5 := Lib.hid (HX4.out.keep (below_drewN (Below.refl _ _) nq))
              have HO15 := Lib.hid (owns_keep HO13.out (below_drewN (Below.refl _ _) nq))
              have HO25 := Lib.hid (owns_keep HO23.out (below_drewN (Below.refl _ _) nq))
              clear HO13 HO23 HO33 HX4
              generalize w4.drewN nq = w5 at *
              by_cases he : e = 0
              · subst he
                by_cases hf : f = 0
                · subst hf
                  obtain ⟨n, rfl, hn2, hk⟩ := HUB.out rfl rfl
                  have hll : (cwd ++ [n]).length = cwd.length + 1 := by simp
                  obtain ⟨g1, c1, hv1, q0, q1, q2, q3⟩ := StkO.top (show StkO w5 w1.heap.size _ (cwd ++ [n]) from HO15.out) (by simp)
                  have htp : topT (cwd ++ [n]) = n := by simp [topT]
                  rw [htp, hll, Nat.add_sub_cancel] at q3
                  simp only [Value.slice.injEq] at hv1
                  obtain ⟨rfl, -, rfl⟩ := hv1
                  rw [hll]
                  have HSTA := Lib.hid (stat_row n (HTR.out.keep HX5.out.be))
                  have y1 : IntKind.i64.wrap ((cwd.length : Int) + 1) = (cwd.length : Int) + 1 := IntWalk.i64_in _ (by omega)
                  have y2 : IntKind.i64.wrap ((cwd.length : Int) + 1 - 1) = (cwd.length : Int) := by rw [IntWalk.i64_in _ (by omega)]; omega
                  have y3 : (cwd.length : Int) < (cwd.length : Int) + 1 := by omega
                  have y4 : (0 : Int) ≤ (cwd.length : Int) := by omega
                  rcases hq : (fsT T).stat n with ⟨st, z⟩
                  rw [hq] at hn2 hk HSTA
                  dsimp only at hn2 hk HSTA
                  subst hn2
                  have HK := Lib.hid hk
                  clear hk hq htp hll q0 q1 q2 HUB HO15
                  have b0 := HX5.out.c0
                  go_upto_region 14 with (go_at_call 10; refine HSTA.out.mono ?_; rintro e6 w6 ⟨rfl, hb6⟩)
                  have hb7 := hb6.alloc hb6.size (.cells (cellsS st) 36)
                  have k0 : (w6.alloc (.cells (cellsS st) 36)).cell? ⟨w6.heap.size, 0, none⟩ = some (.int .i64 st.kind) := (row_new w6 36 (cellsS st)).cell 0
                  revert hb7 k0
                  generalize w6.alloc (.cells (cellsS st) 36) = w7
                  intro hb7 k0
                  have HX7 := Lib.hid (HX5.out.keep hb7)
                  by_cases hk3 : st.kind = 3
                  · have hb3' : (st.kind == 3) = true := by simp [hk3]
                    clear hk3 b0 q3 hb6 hb7
                    go_wp2_with fail
                    go_ret
                    exact ⟨rfl, HX7.out.be⟩
                  · have hb3' : (st.kind == 3) = false := by simp [hk3]
                    obtain rfl : M = cwd := by
                      rcases HK.out with h | h
                      · exact absurd h hk3
                      · exact h
                    have heq := eq_ints (StkO.at (show StkO w7 w2.heap.size _ M from owns_keep HO25.out hb7)) (HCW.out.keep HX7.out.be)
                    rw [show (M == M) = true by simp] at heq
                    have HEQ := Lib.hid heq
                    clear hk3 b0 q3 hb6 hb7 heq
                    go_wp2_with (go_at_call 8; refine HEQ.out.mono ?_; rintro e8 w8 ⟨rfl, q, rfl⟩)
                    go_ret
                    exact ⟨rfl, below_drewN HX7.out.be q⟩
                · have hf' : (f != 0) = true := by simp [hf]
                  clear hf
                  go_wp2_with fail
                  go_ret
                  exact ⟨rfl, HX5.out.be⟩
              · have he' : (e != 0) = true := by simp [he]
                clear he
                go_wp2_with fail
                go_ret
                exact ⟨rfl, HX5.out.be⟩
            -- END MAIN
          · go_wp2_with (go_at_call 9; refine HC.out.mono ?_; rintro e2 w2 ⟨rfl, rfl⟩)
            go_ret
            exact ⟨rfl, HX1.out.be⟩
        · go_wp2_with (go_at_call 9; refine HC.out.mono ?_; rintro e2 w2 ⟨rfl, rfl⟩)
          go_ret
          exact ⟨rfl, HX1.out.be⟩
      · rw [hct] at hco
        have HC := Lib.hid hco
        clear hco hct h0 h14
        go_wp2_with (go_at_call 9; refine HC.out.mono ?_; rintro e2 w2 ⟨rfl, rfl⟩)
        go_ret
        exact ⟨rfl, HX1.out.be⟩
end Go.Proofs.YtjkephmfpoekgaaDoor.PathLaw
