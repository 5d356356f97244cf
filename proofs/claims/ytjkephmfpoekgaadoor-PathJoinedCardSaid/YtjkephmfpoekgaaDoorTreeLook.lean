/- The walks of slices.Contains on bytes, named, Look. -/
import Derived.Test.YtjkephmfpoekgaaDoorTreeMeth
namespace Go.Proofs.YtjkephmfpoekgaaDoor.PathLaw
open Go.RowKit Go.Proofs.YtjkephmfpoekgaaDoor.CredLaw
set_option linter.unusedVariables false
set_option linter.unusedSimpArgs false
set_option maxRecDepth 100000 in
theorem index8_any {w : World} {m : Value} {xs : List Int} (x : Int) (hm : At (Value.int .u8) 0 w m xs) (h63 : xs.length ≤ 4294967296) :
    Calls Tryd.prog 82 #[m, .int .u8 x] w (IndexPost xs x w) := by
  obtain ⟨a, cap, rfl, hl, hcap, hm⟩ := hm
  rcases hm with hnil | ⟨b, off, rfl, hlt, hcell⟩
  · subst hnil
    simp only [List.length_nil] at hl ⊢
    go_enter Tryd.func82, Tryd.ntmps82
    go_wp2
    refine wp_loop_rounds 1 ?_
    rw [rounds_succ]
    go_wp2
    go_ret
    exact ⟨-1, rfl, rfl, rfl⟩
  · obtain ⟨n, hn⟩ : ∃ n, n = xs.length := ⟨_, rfl⟩
    rw [← hn] at hl h63 ⊢
    have HN := Lib.hid hn
    have HC := Lib.hid hcell
    clear hn hcell
    unfold IndexPost
    go_enter Tryd.func82, Tryd.ntmps82
    go_wp2
    go_loop [8] (fun i => ∃ k : Nat, k ≤ n ∧ i = .int .i64 k ∧ Hid (∀ j, j < k → xs.getD j 0 ≠ x)) (fun i => n - (intOf i).toNat)
    case atStart => exact ⟨0, Nat.zero_le _, rfl, fun j hj => absurd hj (Nat.not_lt_zero _)⟩
    case round =>
      obtain ⟨k, hk, rfl, HM⟩ := hrel
      by_cases hkn : k < n
      · obtain ⟨y, hy⟩ : ∃ y, y = xs.getD k 0 := ⟨_, rfl⟩
        have g1 := HC.out k (by rw [← HN.out]; exact hkn)
        rw [← hy] at g1
        have HY := Lib.hid hy
        clear hy
        by_cases hxy : x = y
        · have hb : (x == y) = true := by simp [hxy]
          have HXY := Lib.hid hxy
          clear hxy
          go_wp2
          go_ret
          refine ⟨k, rfl, ?_, rfl⟩
          have hct := contains_at (by rw [← HN.out]; exact hkn) (HXY.out.trans HY.out)
          simp at hct
          simp [hct]
        · have hb : (x == y) = false := by simp [hxy]
          have HXY := Lib.hid hxy
          clear hxy
          go_wp2
          go_round
          case rel =>
            refine ⟨k + 1, by omega, by go_num, fun j hj => ?_⟩
            rcases Nat.lt_succ_iff_lt_or_eq.1 hj with h | rfl
            · exact HM.out j h
            · rw [← HY.out]; exact fun e => HXY.out e.symm
          case measure => simp [intOf]; omega
      · obtain rfl : k = n := by omega
        go_wp2
        go_ret
        refine ⟨-1, rfl, ?_, rfl⟩
        have hct := contains_none (fun j hj => HM.out j (by rw [HN.out]; exact hj))
        simp at hct
        simp [hct]
set_option maxRecDepth 100000 in
theorem contains8_any {w : World} {m : Value} {xs : List Int} (x : Int) (hm : At (Value.int .u8) 0 w m xs) (h63 : xs.length ≤ 4294967296) :
    Calls Tryd.prog 81 #[m, .int .u8 x] w fun e w' => e = .returned (.bool (xs.contains x)) ∧ w = w' := by
  have HI := Lib.hid (index8_any x hm h63)
  clear hm
  go_enter Tryd.func81, Tryd.ntmps81
  go_wp2_with fail
  refine HI.out.mono ?_
  rintro e w1 ⟨r, rfl, hr, rfl⟩
  have HR := Lib.hid hr
  clear hr
  go_wp2
  go_ret
  exact ⟨ret_bool HR.out, rfl⟩
def bytesI (s : ByteArray) : List Int := s.data.toList.map fun b => (b.toNat : Int)
theorem bytesI_len (s : ByteArray) : (bytesI s).length = s.size := by simp [bytesI]
theorem below_bytes (w : World) (s : ByteArray) : Below w.heap.size w (Lib.bytesWorld w 5 s) :=
  ⟨rfl, rfl, rfl, by rw [Lib.bytesWorld_size]; omega, fun k hk => Lib.bytesWorld_at_old w 5 s k hk⟩
theorem at_bytes (w : World) (s : ByteArray) (hm : grownCap w s.size 0 5 ≤ maxLen) (hc : s.size ≤ grownCap w s.size 0 5) : At (Value.int .u8) 0 (Lib.bytesWorld w 5 s) (.slice (some ⟨w.heap.size, 0, none⟩) s.size (grownCap w s.size 0 5)) (bytesI s) := by
  refine ⟨_, grownCap w s.size 0 5, by rw [bytesI_len], by rw [bytesI_len]; exact hc, hm, .inr ⟨w.heap.size, 0, rfl, by rw [Lib.bytesWorld_size]; omega, fun i hi => ?_⟩⟩
  rw [bytesI_len] at hi
  rw [Nat.zero_add, Lib.bytesWorld_cell w 5 s i hi]
  congr 2
  unfold bytesI
  have hl : i < s.data.toList.length := by simpa using hi
  simp only [List.getD_eq_getElem?_getD, List.getElem?_map, List.getElem?_eq_getElem hl]
  rfl
theorem toList_data (s : ByteArray) : s.toList = s.data.toList := Lib.toList_data s
theorem grown_ge (w : World) (s : ByteArray) : s.size ≤ grownCap w s.size 0 5 := grownCap_ge w s.size 0 5
theorem grown_le (w : World) (s : ByteArray) (h : s.size ≤ 14) : grownCap w s.size 0 5 ≤ maxLen := grownCap_le_maxLen w s.size 0 5 (by unfold maxLen; omega)
def namedB (s : ByteArray) : Bool :=
  if s.size < 1 then false else if 14 < s.size then false else if isDot s then false else if isUp s then false else if (bytesI s).contains 0 then false else !((bytesI s).contains 47)
set_option maxRecDepth 100000 in
theorem named_is (s : ByteArray) (w : World) : Calls Tryd.prog 80 #[.string s] w fun e w' => e = .returned (.bool (namedB s)) ∧ Below w.heap.size w w' := by
  have kc := fun (w : World) (s : ByteArray) => Lib.run_convert_string_bytes (P := Tryd.prog) w 9 73 5 s Tryd.underlying9 Tryd.underlying73 Tryd.underlying5
  have HK := Lib.hid kc
  clear kc
  by_cases h1 : s.size < 1
  · have HN := Lib.hid (show namedB s = false by rw [namedB, if_pos h1])
    go_enter Tryd.func80, Tryd.ntmps80
    go_wp2
    go_ret
    exact ⟨ret_bool HN.out.symm, Below.refl _ _⟩
  · by_cases h2 : 14 < s.size
    · have HN := Lib.hid (show namedB s = false by rw [namedB, if_neg h1, if_pos h2])
      go_enter Tryd.func80, Tryd.ntmps80
      go_wp2
      go_ret
      exact ⟨ret_bool HN.out.symm, Below.refl _ _⟩
    · have HL := Lib.hid (show s.size ≤ 14 by omega)
      have i1 : ¬ ((s.size : Int) < 1) := by omega
      have i2 : ¬ ((14 : Int) < (s.size : Int)) := by omega
      cases h3 : isDot s
      · have d3 : (s.toList == [46]) = false := by rw [← h3, isDot, toList_data]
        cases h4 : isUp s
        · have d4 : (s.toList == [46, 46]) = false := by rw [← h4, isUp, toList_data]
          have hbw := below_bytes w s
          have hat := at_bytes w s (grown_le w s HL.out) (grown_ge w s)
          have h14 : (bytesI s).length ≤ 4294967296 := by rw [bytesI_len]; have := HL.out; omega
          have c1 := contains8_any 0 hat h14
          have HS := Lib.hid hbw
          cases h5 : (bytesI s).contains 0
          · have HN := Lib.hid (show namedB s = !((bytesI s).contains 47) by rw [namedB, if_neg h1, if_neg h2, h3, h4, h5]; rfl)
            rw [h5] at c1
            have hbw2 := below_bytes (Lib.bytesWorld w 5 s) s
            have c2 := contains8_any 47 (at_bytes (Lib.bytesWorld w 5 s) s (grown_le _ s HL.out) (grown_ge _ s)) h14
            have HS2 := Lib.hid (HS.out.trans (hbw2.mono HS.out.size))
            have C1 := Lib.hid c1
            cases h6 : (bytesI s).contains 47
            · rw [h6] at c2 HN
              have C2 := Lib.hid c2
              have kc := HK.out
              clear c1 c2 hbw hat hbw2 h3 h4 h5 h6 h1 h2
              go_enter Tryd.func80, Tryd.ntmps80
              go_wp2_with fail
              refine C1.out.mono ?_
              rintro e1 w1 ⟨rfl, rfl⟩
              go_wp2_with fail
              refine C2.out.mono ?_
              rintro e1 w1 ⟨rfl, rfl⟩
              go_wp2
              go_ret
              exact ⟨ret_bool HN.out.symm, HS2.out⟩
            · rw [h6] at c2 HN
              have C2 := Lib.hid c2
              have kc := HK.out
              clear c1 c2 hbw hat hbw2 h3 h4 h5 h6 h1 h2
              go_enter Tryd.func80, Tryd.ntmps80
              go_wp2_with fail
              refine C1.out.mono ?_
              rintro e1 w1 ⟨rfl, rfl⟩
              go_wp2_with fail
              refine C2.out.mono ?_
              rintro e1 w1 ⟨rfl, rfl⟩
              go_wp2
              go_ret
              exact ⟨ret_bool HN.out.symm, HS2.out⟩
          · have HN := Lib.hid (show namedB s = false by rw [namedB, if_neg h1, if_neg h2, h3, h4, h5]; rfl)
            rw [h5] at c1
            have C1 := Lib.hid c1
            have kc := HK.out
            clear c1 hbw hat h3 h4 h5 h1 h2
            go_enter Tryd.func80, Tryd.ntmps80
            go_wp2_with fail
            refine C1.out.mono ?_
            rintro e1 w1 ⟨rfl, rfl⟩
            go_wp2
            go_ret
            exact ⟨ret_bool HN.out.symm, HS.out⟩
        · have d4 : (s.toList == [46, 46]) = true := by rw [← h4, isUp, toList_data]
          have HN := Lib.hid (show namedB s = false by rw [namedB, if_neg h1, if_neg h2, h3, h4]; rfl)
          clear h1 h2 h3 h4
          go_enter Tryd.func80, Tryd.ntmps80
          go_wp2
          go_ret
          exact ⟨ret_bool HN.out.symm, Below.refl _ _⟩
      · have d3 : (s.toList == [46]) = true := by rw [← h3, isDot, toList_data]
        have HN := Lib.hid (show namedB s = false by rw [namedB, if_neg h1, if_neg h2, h3]; rfl)
        clear h1 h2 h3
        go_enter Tryd.func80, Tryd.ntmps80
        go_wp2
        go_ret
        exact ⟨ret_bool HN.out.symm, Below.refl _ _⟩
def findT (nm : ByteArray) : List (ByteArray × Int) → Int × Int
  | [] => (0, 4)
  | x :: t => if (x.1.toList == nm.toList) = true then (x.2, 0) else findT nm t
theorem findT_at {nm : ByteArray} {l : List (ByteArray × Int)} {i : Nat} (h : i < l.length) : findT nm (l.drop i) = if ((l.getD i (⟨#[]⟩, 0)).1.toList == nm.toList) = true then ((l.getD i (⟨#[]⟩, 0)).2, 0) else findT nm (l.drop (i + 1)) := by
  rw [List.drop_eq_getElem_cons h, findT]
  simp [List.getD, h]
theorem ret_ii {x y : Int} {r : Int × Int} (h : r = (x, y)) : Ending.returned (.tuple #[.int .i64 x, .int .i64 y]) = .returned (.tuple #[.int .i64 r.1, .int .i64 r.2]) := by rw [h]
def lookT (T : List Nd) (dir : Int) (nm : ByteArray) : Int × Int := if namedB nm = true then (match nodeT T dir with
  | none => (0, 4)
  | some d => if d.st.kind = 2 then findT nm d.names else (0, 12)) else (0, 3)
set_option maxRecDepth 100000 in
set_option maxHeartbeats 400000 in
theorem look_is {w : World} {v : Value} {T : List Nd} (n : Int) (nm : ByteArray) (h : TreeS w v T) : Calls Tryd.prog 78 #[v, .int .i64 n, .string nm] w fun E w' => E = .returned (.tuple #[.int .i64 (lookT T n nm).1, .int .i64 (lookT T n nm).2]) ∧ Below w.heap.size w w' := by
  obtain ⟨a, cap, rfl, -⟩ := id h
  have hb1 := Go.Joins.below_alloc1 w (.cells #[.slice a T.length cap] 24)
  have hh1 := heap_alloc_new w (.cells #[.slice a T.length cap] 24)
  have hs1 : w.heap.size < (w.alloc (.cells #[.slice a T.length cap] 24)).heap.size := by simp
  have hnm := named_is nm (w.alloc (.cells #[.slice a T.length cap] 24))
  have HB1 := Lib.hid hb1
  have HH1 := Lib.hid hh1
  have HS1 := Lib.hid hs1
  have HT := Lib.hid h
  clear hb1 hh1 hs1 h
  cases hN : namedB nm
  · rw [hN] at hnm
    have HS := Lib.hid (show lookT T n nm = (0, 3) by rw [lookT, hN]; rfl)
    have HNM := Lib.hid hnm
    clear hnm hN
    go_enter Tryd.func78, Tryd.ntmps78
    go_wp2_with (go_at_call 80; refine HNM.out.mono ?_; rintro e1 w1 ⟨rfl, hb1⟩)
    go_ret2
    exact ⟨ret_ii HS.out, HB1.out.trans (hb1.mono HB1.out.size)⟩
  · rw [hN] at hnm
    have HS := Lib.hid (show lookT T n nm = (match nodeT T n with
      | none => (0, 4)
      | some d => if d.st.kind = 2 then findT nm d.names else (0, 12)) by rw [lookT, hN]; rfl)
    have HNM := Lib.hid hnm
    clear hnm hN
    go_enter Tryd.func78, Tryd.ntmps78
    go_upto_region 3 with (go_at_call 80; refine HNM.out.mono ?_; rintro e1 w1 ⟨rfl, hb1⟩)
    have hB1 := HB1.out.trans (hb1.mono HB1.out.size)
    have d0 : w1.cell? ⟨w.heap.size, 0, none⟩ = some (.slice a T.length cap) := by rw [cell_of_row _ _ _ _ _ _ ((hb1.block w.heap.size HS1.out).trans HH1.out)]; rfl
    have HND := Lib.hid (node_is n (HT.out.keep hB1))
    have HB := Lib.hid hB1
    clear hb1 hB1 HH1 HS1 HB1 HNM
    go_upto_region 4 with (go_at_call 17; refine HND.out.mono ?_; rintro e9 w9 ⟨p, rfl, hb9, hp⟩)
    have HB9 := Lib.hid (HB.out.trans (hb9.mono HB.out.size))
    clear d0 HND
    rcases hp with ⟨rfl, hno⟩ | ⟨b, o, d, rfl, hso, hd⟩
    · have HS' := Lib.hid (show lookT T n nm = (0, 4) by rw [HS.out, hno])
      clear hno hb9
      go_wp2_with fail
      go_ret2
      exact ⟨ret_ii HS'.out, HB9.out⟩
    · have HS' := Lib.hid (show lookT T n nm = if d.st.kind = 2 then findT nm d.names else (0, 12) by rw [HS.out, hso])
      obtain ⟨hlt, c0, -, -, -, -, -, ⟨nv, c6, hnv⟩, -⟩ := hd.keep hb9
      clear hso hb9 hd HS
      obtain ⟨na, nc, rfl, hl, hcm, hc⟩ := id hnv
      have hcm' : (nc : Int) ≤ 9223372036854775807 := by have : nc ≤ maxLen := hcm; unfold maxLen at this; omega
      have HNV := Lib.hid hnv
      clear hnv hcm
      by_cases h2 : d.st.kind = 2
      · have hb2 : (d.st.kind != 2) = false := by simp [h2]
        have HF := Lib.hid (HS'.out.trans (if_pos h2))
        have HC := Lib.hid hc
        clear h2 HS' hc
        go_upto_region 9 with fail
        go_loopw [30] (fun iv wr => ∃ i : Nat, i ≤ d.names.length ∧ iv = .int .i64 i ∧ Hid (findT nm d.names = findT nm (d.names.drop i)) ∧ Hid (Below w9.heap.size w9 wr)) (fun iv _ => d.names.length - (intOf iv).toNat)
        case atStart => exact ⟨0, Nat.zero_le _, rfl, Lib.hid rfl, Lib.hid (Below.refl _ _)⟩
        case round =>
          obtain ⟨i, hi, rfl, HI, HR⟩ := hrel
          by_cases hil : i < d.names.length
          · have hii : (i : Int) < (d.names.length : Int) := by omega
            rcases HC.out with hq | ⟨b', off, rfl, hblt, hq⟩
            · rw [hq] at hil; exact absurd hil (Nat.not_lt_zero _)
            · have e0 := (HR.out.cell (p := ⟨b', off + i * 2, none⟩) hblt).trans (hq i hil).1
              have e1 := (HR.out.cell (p := ⟨b', off + i * 2 + 1, none⟩) hblt).trans (hq i hil).2
              have HA := Lib.hid (HI.out.trans (findT_at hil))
              generalize d.names.getD i (⟨#[]⟩, 0) = x at *
              obtain ⟨x0, x1⟩ := x
              dsimp only at *
              clear hq
              cases hx : (x0.toList == nm.toList)
              · have HA' := Lib.hid (HA.out.trans (if_neg (by rw [hx]; decide)))
                go_wp2_with fail
                go_roundw
                case rel => exact ⟨i + 1, by omega, by go_num, HA', Lib.hid (HR.out.alloc HR.out.size _)⟩
                case measure => simp [intOf]; omega
              · have HA' := Lib.hid (HF.out.trans (HA.out.trans (if_pos hx)))
                have HBR := Lib.hid (HB9.out.trans ((HR.out.alloc HR.out.size (.cells #[.string x0, .int .i64 x1] 42)).mono HB9.out.size))
                go_wp2_with fail
                go_ret2
                exact ⟨ret_ii HA'.out, HBR.out⟩
          · obtain rfl : i = d.names.length := by omega
            have HA' := Lib.hid (HF.out.trans (HI.out.trans (by rw [List.drop_length])))
            have HBR := Lib.hid (HB9.out.trans (HR.out.mono HB9.out.size))
            go_wp2_with fail
            go_ret2
            exact ⟨ret_ii HA'.out, HBR.out⟩
      · have hb2 : (d.st.kind != 2) = true := by simp [h2]
        have HF := Lib.hid (HS'.out.trans (if_neg h2))
        clear h2 HS' hc
        go_wp2_with fail
        go_ret2
        exact ⟨ret_ii HF.out, HB9.out⟩
end Go.Proofs.YtjkephmfpoekgaaDoor.PathLaw
