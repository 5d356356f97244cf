/- The walk of the law PathJoined. -/
import Derived.Test.YtjkephmfpoekgaaDoorPathUpW
import Derived.Test.YtjkephmfpoekgaaDoorPathJoin
namespace Go.Proofs.YtjkephmfpoekgaaDoor.PathLaw
open Go.RowKit Go.Proofs.YtjkephmfpoekgaaDoor.CredLaw
set_option linter.unusedVariables false
set_option linter.unusedSimpArgs false
theorem wayT_len (F : Fs) (c : C) (f : Bool) (cwd : List Int) (s : List UInt8) : (wayT F c f cwd s).2.length ≤ cwd.length + 288 := by
  by_cases h : (wayT F c f cwd s).1 = 0
  · obtain ⟨-, -, -, -, h5⟩ := wayT_ok h
    rw [h5]
    have h1 := walkT_len F c f 8 (rooted (splitT s).1 cwd) (splitT s).2.1
    have h2 : (splitT s).2.1.length ≤ 32 := splitT_len (s := s) rfl
    have h3 : (rooted (splitT s).1 cwd).length ≤ cwd.length := by unfold rooted; split <;> simp <;> omega
    omega
  · rw [wayT_err h]; simp
set_option maxRecDepth 100000 in
set_option maxHeartbeats 1000000 in
theorem pathjoined_any {w : World} {T : List Nd} {tv : Value} {c : C} {mv cv : Value} {cwd : List Int} {a b : ByteArray} {m : Int} (ht : TreeS w tv T) (hmo : At (Value.int .i64) 0 w mv c.xs) (hcw : At (Value.int .i64) 0 w cv cwd) (hbig : cwd.length + 288 ≤ 17592186044416) (hm : w.cell? ⟨0, 0, none⟩ = some (.int .i64 m)) (ha : a.size ≤ 140737488355328) (hb : b.size ≤ 140737488355328) :
    Calls Tryd.prog 3 #[tv, encC c mv, cv, .string a, .string b] w fun e w' => e = .returned (.bool true) ∧ Below w.heap.size w w' := by
  obtain ⟨na, nc, rfl, -⟩ := id ht
  have hbx := BX.new w (.slice na T.length nc) mv c
  obtain ⟨ca, cc, rfl, -⟩ := id hcw
  have hwy := fun (wx : World) (hb : Below w.heap.size w wx) (f : Bool) (s' : ByteArray) (cv' : Value) (cwd' : List Int) (hc' : At (Value.int .i64) 0 wx cv' cwd') (hl' : cwd'.length ≤ 17592186044416) => way_is (c := c) (s := s') f (ht.keep hb) (hmo.keep hb) hc' hl' ((hb.cell (p := ⟨0, 0, none⟩) (World.block_lt_of_cell? w _ hm)).trans hm)
  have hpa := fun (wx : World) (hb : Below w.heap.size w wx) => paths_is (w := wx) ((hb.cell (p := ⟨0, 0, none⟩) (World.block_lt_of_cell? w _ hm)).trans hm)
  simp only [encC] at hwy ⊢
  have HBX := Lib.hid hbx
  have HWY := Lib.hid hwy
  have HPA := Lib.hid hpa
  have HCW := Lib.hid hcw
  clear hbx hwy hpa ht hmo hcw hm
  go_enter Tryd.func3, Tryd.ntmps3
  go_upto_region 3 with (go_at_call 6; refine (HPA.out _ HBX.out.be).mono ?_; rintro e1 w1 ⟨rfl, hb1⟩)
  have HX1 := Lib.hid (HBX.out.keep hb1)
  clear hb1 HPA HBX
  have b0 := HX1.out.c0
  have b1 := HX1.out.d0
  have b2 := HX1.out.d1
  have b3 := HX1.out.d2
  have b4 := HX1.out.d3
  have b5 := HX1.out.d4
  have b6 := HX1.out.d5
  go_upto_region 4 with (go_at_call 7; refine (HWY.out w1 HX1.out.be _ _ _ _ (HCW.out.keep HX1.out.be) (by omega)).mono ?_; rintro e1 w2 ⟨v1, rfl, hb1, ho1⟩; obtain ⟨a1, k1, rfl⟩ := own_form ho1)
  have HX2 := Lib.hid (HX1.out.keep hb1)
  have HO1 := Lib.hid ho1
  have HJ := Lib.hid (fun L h => joined_law (F := fsT T) (c := c) (cwd := cwd) (L := L) (a := a.data.toList) (b := b.data.toList) h)
  have HE := Lib.hid (wayT_err (F := fsT T) (c := c) (f := true) (cwd := cwd) (s := a.data.toList))
  have HLN := Lib.hid (wayT_len (fsT T) c true cwd a.data.toList)
  clear b0 b1 b2 b3 b4 b5 b6 ho1 hb1
  generalize wayT (fsT T) c true cwd a.data.toList = A at *
  obtain ⟨e, L⟩ := A
  dsimp only at *
  by_cases he : e = 0
  · subst he
    have hend : ∀ wx, Below w.heap.size w wx → True := fun _ _ => trivial
    by_cases h0 : b.size = 0
    · have hd : b.data.toList = [] := List.eq_nil_of_length_eq_zero (by simpa using h0)
      have d2 : b.toList.isEmpty = true := by rw [Lib.toList_data, hd]; rfl
      have d3 : b.toList = [] := by rw [Lib.toList_data, hd]
      clear h0 hd hend
      go_wp2_with fail
      go_ret
      exact ⟨rfl, HX2.out.be⟩
    · have hd : b.data.toList ≠ [] := fun h => h0 (by have := congrArg List.length h; simpa using this)
      have d2 : b.toList.isEmpty = false := by rw [Lib.toList_data]; cases hq : b.data.toList with
        | nil => exact absurd hq hd
        | cons x y => rfl
      have hp0 : 0 < b.size := Nat.pos_of_ne_zero h0
      have hhd := head_is b hp0
      have HD := Lib.hid hd
      clear h0 hd hend
      cases hq : (((b[0].toNat : Nat) : Int) == 47)
      · have HH := Lib.hid (hhd.trans hq)
        clear hhd
        have y1 : IntKind.i64.wrap ((a.size : Int) + (b.size : Int)) = (a.size : Int) + (b.size : Int) := IntWalk.i64_in _ (by omega)
        have y2 : IntKind.i64.wrap ((a.size : Int) + (b.size : Int) + 1) = (a.size : Int) + (b.size : Int) + 1 := IntWalk.i64_in _ (by omega)
        by_cases hl : a.size + b.size + 1 ≤ 64
        · have i1 : ¬ ((64 : Int) < (a.size : Int) + (b.size : Int) + 1) := by omega
          have HJ2 := Lib.hid (HJ.out L rfl HD.out HH.out (by simpa using hl))
          clear hl
          go_upto_region 6 with fail
          -- MAIN
          have HL3 := Lib.hid (show L.length ≤ 17592186044416 by have := HLN.out; omega)
          clear HLN
          have b0 := HX2.out.c0
          have b1 := HX2.out.d0
          have b2 := HX2.out.d1
          have b3 := HX2.out.d2
          have b4 := HX2.out.d3
          have b5 := HX2.out.d4
          have b6 := HX2.out.d5
          go_upto_region 7 with (go_at_call 7; refine (HWY.out w2 HX2.out.be _ _ _ _ HO1.out.at HL3.out).mono ?_; rintro e2 w3 ⟨v2, rfl, hb2, ho2⟩; obtain ⟨a2, k2, rfl⟩ := own_form ho2)
          have HX3 := Lib.hid (HX2.out.keep hb2)
          have HO22 := Lib.hid ho2
          clear b0 b1 b2 b3 b4 b5 b6 ho2 hb2 HO1 HL3
          have b0 := HX3.out.c0
          have b1 := HX3.out.d0
          have b2 := HX3.out.d1
          have b3 := HX3.out.d2
          have b4 := HX3.out.d3
          have b5 := HX3.out.d4
          have b6 := HX3.out.d5
          go_upto_region 8 with (go_at_call 7; refine (HWY.out w3 HX3.out.be _ _ _ _ (HCW.out.keep HX3.out.be) (by omega)).mono ?_; rintro e3 w4 ⟨v3, rfl, hb3, ho3⟩; obtain ⟨a3, k3, rfl⟩ := own_form ho3)
          have HX4 := Lib.hid (HX3.out.keep hb3)
          have HO23 := Lib.hid (owns_keep HO22.out hb3)
          have HO33 := Lib.hid ho3
          clear b0 b1 b2 b3 b4 b5 b6 ho3 hb3 HO22
          have hap : (a ++ (⟨#[47]⟩ : ByteArray) ++ b).data.toList = a.data.toList ++ 47 :: b.data.toList := by simp
          rw [hap] at HO33
          clear hap HJ HCW HWY HX3 HE HD HH
          generalize wayT (fsT T) c true L b.data.toList = A2 at *
          generalize wayT (fsT T) c true cwd (a.data.toList ++ 47 :: b.data.toList) = B2 at *
          obtain ⟨f, M⟩ := A2
          obtain ⟨g, N⟩ := B2
          dsimp only at *
          have heq := eq_ints (StkO.at (show StkO w4 w2.heap.size _ M from HO23.out)) (StkO.at (show StkO w4 w3.heap.size _ N from HO33.out))
          have hj := HJ2.out
          clear HJ2 HO23 HO33
          by_cases h14 : f = 14 ∧ g = 14
          · obtain ⟨rfl, rfl⟩ := h14
            generalize (M == N) = z at heq
            have HEQ := Lib.hid heq
            clear heq hj
            cases z
            · go_wp2_with (go_at_call 8; refine HEQ.out.mono ?_; rintro e8 w8 ⟨rfl, q, rfl⟩)
              go_ret
              exact ⟨rfl, below_drewN HX4.out.be q⟩
            · go_wp2_with (go_at_call 8; refine HEQ.out.mono ?_; rintro e8 w8 ⟨rfl, q, rfl⟩)
              go_ret
              exact ⟨rfl, below_drewN HX4.out.be q⟩
          · by_cases hfg : f = g ∧ M = N
            · obtain ⟨rfl, rfl⟩ := hfg
              rw [show (M == M) = true by simp] at heq
              have HEQ := Lib.hid heq
              clear heq hj h14
              go_wp2_with (go_at_call 8; refine HEQ.out.mono ?_; rintro e8 w8 ⟨rfl, q, rfl⟩)
              go_ret
              exact ⟨rfl, below_drewN HX4.out.be q⟩
            · have hne : f ≠ g ∧ (g = 14 ∨ f = 14) := by
                rcases hj with h | h | h
                · exact absurd h hfg
                · exact ⟨fun e => h14 ⟨e.trans h, h⟩, .inl h⟩
                · exact ⟨fun e => h14 ⟨h, e.symm.trans h⟩, .inr h⟩
              obtain ⟨hne, ho⟩ := hne
              have i1 : (f == g) = false := by simp [hne]
              clear heq hj h14 hfg
              by_cases hg : g = 14
              · subst hg
                clear hne ho
                go_wp2_with fail
                go_ret
                exact ⟨rfl, HX4.out.be⟩
              · have i2 : (g == 14) = false := by simp [hg]
                obtain rfl : f = 14 := by rcases ho with h | h; exact absurd h hg; exact h
                clear hne ho hg
                go_wp2_with fail
                go_ret
                exact ⟨rfl, HX4.out.be⟩
          -- END MAIN
        · have i1 : (64 : Int) < (a.size : Int) + (b.size : Int) + 1 := by omega
          clear hl
          go_wp2_with fail
          go_ret
          exact ⟨rfl, HX2.out.be⟩
      · clear hhd
        go_wp2_with fail
        go_ret
        exact ⟨rfl, HX2.out.be⟩
  · obtain rfl : L = [] := HE.out he
    have he' : (e != 0) = true := by simp [he]
    have he2 : (e == 0) = false := by simp [he]
    clear he
    simp only [List.length_nil]
    go_wp2_with fail
    go_ret
    exact ⟨rfl, HX2.out.be⟩
end Go.Proofs.YtjkephmfpoekgaaDoor.PathLaw
