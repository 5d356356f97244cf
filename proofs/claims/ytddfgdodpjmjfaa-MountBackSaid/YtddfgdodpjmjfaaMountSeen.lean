/- The walks of mount.Seen, ringkeep5.mounts, ringkeep5.MountSeen. -/
import Derived.Test.YtddfgdodpjmjfaaMountAdd
import Derived.Test.YtddfgdodpjmjfaaCredIn
namespace Go.Proofs.Ytddfgdodpjmjfaa.MountLaw
open Go.RowKit
open CredLaw (contains_any)
set_option linter.unusedVariables false

theorem good_one : Good [⟨2, 3⟩] := by
  refine ⟨by decide, ?_, ?_, ?_, ?_⟩ <;> intro i hi <;> obtain rfl : i = 0 := by simp at hi; omega
  · decide
  · decide
  · intro j hj; omega
  · decide
theorem good_two : Good [⟨2, 3⟩, ⟨3, 4⟩] := by
  refine ⟨by decide, ?_, ?_, ?_, ?_⟩ <;> intro i hi <;> have h : i = 0 ∨ i = 1 := (by simp at hi; omega) <;> rcases h with rfl | rfl
  · decide
  · decide
  · decide
  · decide
  · intro j hj; omega
  · intro j hj
    obtain rfl : j = 0 := by omega
    decide
  · decide
  · decide
theorem two0 (w : World) (T : TypeId) : ∀ i, i < [(0 : Int), 0].length → (w.alloc (.cells #[.int .i64 0, .int .i64 0] T)).cell? ⟨w.heap.size, i, none⟩ = some (.int .i64 ([(0 : Int), 0].getD i 0)) := by
  intro i hi
  rw [cell_of_row _ _ _ _ _ _ (heap_alloc_new _ _)]
  have : i = 0 ∨ i = 1 := by simp at hi; omega
  rcases this with rfl | rfl <;> rfl
set_option maxRecDepth 100000 in
theorem mounts_any (w : World) : Calls Try.prog 37 #[] w fun e w' => e = .returned (.bool true) ∧ Below w.heap.size w w' := by
  have hN := has_new w [.int .i64 2, .int .i64 3] 80
  have hM : MS (w.alloc (.cells #[.int .i64 2, .int .i64 3] 80)) (.slice (some ⟨w.heap.size, 0, none⟩) 1 1) [⟨2, 3⟩] := by
    refine ⟨_, 1, rfl, Nat.le_refl _, by decide, .inr ⟨w.heap.size, 0, rfl, hN.1, fun i hi => ?_⟩⟩
    obtain rfl : i = 0 := by simp at hi; omega
    exact ⟨hN.2 0 _ rfl, hN.2 1 _ rfl⟩
  have HB := Lib.hid (Go.Joins.below_alloc1 w (.cells #[.int .i64 2, .int .i64 3] 80))
  have HADD := Lib.hid (add_is 3 4 hM)
  have h4 : to [⟨2, 3⟩, ⟨3, 4⟩] 2 = 4 := by decide
  have H4 := Lib.hid h4
  clear hN hM h4
  go_enter Try.func37, Try.ntmps37
  go_wp2_with fail
  refine HADD.out.mono ?_
  rintro e w1 ⟨v', en, rfl, hb1, hcase⟩
  have HB1 := Lib.hid (HB.out.trans (hb1.mono HB.out.size))
  clear hb1
  rcases hcase with ⟨rfl, _, _, base, _, hown⟩ | ⟨_, _, h⟩
  · have HM := Lib.hid (ms_owned hown)
    clear hown
    go_wp2_with fail
    refine (downG_is 2 good_two (by decide) HM.out).mono ?_
    rintro e w2 ⟨rfl, hb2⟩
    have h4 := H4.out
    simp only [List.cons_append, List.nil_append] at *
    rw [h4]
    have HB2 := Lib.hid (HB1.out.trans (hb2.mono HB1.out.size))
    clear hb2 h4
    go_wp2_with fail
    refine (good_any _ _ [0, 0] _ (by simp) (two0 _ _)).mono ?_
    rintro e w3 ⟨rfl, rfl⟩
    rw [show ([(0 : Int), 0].all (· == 0)) = true from rfl]
    go_wp2
    go_ret
    exact ⟨rfl, HB2.out.alloc HB2.out.size _⟩
  · exact absurd ⟨good_one, good_two⟩ h

theorem info3 : (Try.prog.info? 3).map (fun i => (i.zero, i.size, i.bytes)) = some (some (.int .i64 0), 1, 8) := by kernel_rfl
def SeenPost (l : List Mt) (x : Int) (w : World) (e : Ending) (w' : World) : Prop := ∃ v', e = .returned (.tuple #[v', .int .i64 0]) ∧ Below w.heap.size w w' ∧ At (Value.int .i64) 0 w' v' (seen l x 32)
set_option maxRecDepth 100000 in
set_option maxHeartbeats 2000000 in
theorem seen_is {w : World} {v : Value} {l : List Mt} (x : Int) (hg : Good l) (hx : inode x) (hm : MS w v l) : Calls Try.prog 39 #[v, .int .i64 x] w (SeenPost l x w) := by
  have HDG := Lib.hid (downG_is x hg hx hm)
  have hdown := fun w' (hb : Below w.heap.size w w') (y : Int) => down_is (w := w') y (Nat.le_trans hg.len (by decide)) (hm.below hb)
  have hdown2 : ∀ w' (hb : Below w.heap.size w w') (y : Int), Calls Try.prog 69 #[v, .int .i64 y] w' fun e w'' => e = .returned (.tuple #[.int .i64 (to l y), .bool true]) ∧ Below w'.heap.size w' w'' := fun w' hb y => by
    have := hdown w' hb y
    rw [to_is hg y] at this
    exact this
  have HD := Lib.hid hdown2
  obtain ⟨a, cap, rfl, _⟩ := hm
  obtain ⟨i0, hi, hz0, hz1, hz2⟩ := info_parts info3
  clear hdown hdown2 hg hx
  generalize l.length = n at *
  go_enter Try.func39, Try.ntmps39
  go_wp2_with fail
  refine HDG.out.mono ?_
  rintro e w1 ⟨rfl, hb1⟩
  have HB1 := Lib.hid hb1
  clear hb1
  generalize to l x = z
  go_wp2_with fail
  go_loopw [8, 9] (fun ov iv wr => ∃ k : Nat, k ≤ 32 ∧ iv = .int .i64 ((k + 1 : Nat) : Int) ∧ Below w1.heap.size w1 wr ∧ wr.ownsRow w1.heap.size 3 1 ov (seen l x k).length ((seen l x k).map (Value.int .i64))) (fun _ iv _ => 33 - (intOf iv).toNat)
  case atStart => exact ⟨0, by omega, rfl, Below.refl _ _, World.ownsRow_nil _ _ _ _⟩
  case round =>
    obtain ⟨k, hk, rfl, hbel, hown⟩ := hrel
    by_cases hlt : k < 32
    · obtain ⟨j, hj⟩ : ∃ j : Int, j = ((k + 1 : Nat) : Int) := ⟨_, rfl⟩
      have hsl := seen_len l x k
      have hyes := @seen_yes l x k
      have hno := @seen_no l x k
      rw [← hj] at hyes hno ⊢
      have hj32 : j ≤ 32 := by omega
      have hj1 : 1 ≤ j := by omega
      have HJ := Lib.hid hj
      have HY := Lib.hid hyes
      have HNO := Lib.hid hno
      have HBW := Lib.hid (HB1.out.trans (hbel.mono HB1.out.size))
      have HBL := Lib.hid hbel
      have HLT := Lib.hid hlt
      have hsl2 : (seen l x k).length ≤ 31 := by omega
      clear hj hyes hno hbel hsl
      by_cases hto : to l j = x
      · go_wp2_with fail
        refine (HD.out _ HBW.out j).mono ?_
        rintro e w3 ⟨rfl, hb3⟩
        have HB3 := Lib.hid (HBL.out.trans (hb3.mono HBL.out.size))
        have hown3 := ownsRow_below' hown hb3
        have HTO := Lib.hid hto
        rw [hto]
        have hxx : (x == x) = true := by simp
        clear hb3 hown hto
        go_wp2_with (at_builtin; go_loud (refine wpList_append_fresh _ rfl (.tmp 34) (.tmp 36) 42 rfl w1.heap.size 3 i0 (.int .i64 0) 1 8 Try.underlying42 hi hz0 hz1 hz2 rfl (by decide) _ _ _ rfl (hown3.alloc _) ⟨_, 0, none⟩ 1 1 [.int .i64 j] rfl rfl (cells1_new _ _ _) one1 (by unfold maxLen; omega) (by omega) (by have := HB3.out.size; simp; omega) ?_))
        intro v7 w7 own7 grow7 fresh7
        have hbl7 : Below w1.heap.size w1 w7 := (HB3.out.alloc HB3.out.size _).grown grow7 (by have := HB3.out.size; simp; omega) (fun g hg => (hown3.lt g hg).1)
        have hX7 : w7.ownsRow w1.heap.size 3 1 v7 (seen l x (k + 1)).length ((seen l x (k + 1)).map (Value.int .i64)) := by
          rw [HY.out HTO.out]; simpa using own7
        clear own7 grow7 fresh7 hown3
        go_wp2
        go_roundw
        case rel => exact ⟨k + 1, by omega, by have := HJ.out; go_num, hbl7, hX7⟩
        case measure => have := HJ.out; simp [intOf]; omega
      · have hto' : (to l j == x) = false := by simp [hto]
        have HTO := Lib.hid hto
        clear hto
        obtain ⟨t, ht⟩ : ∃ t, t = to l j := ⟨_, rfl⟩
        rw [← ht] at hto'
        have HT := Lib.hid ht
        clear ht
        go_wp2_with fail
        refine (HD.out _ HBW.out j).mono ?_
        rintro e w3 ⟨rfl, hb3⟩
        rw [← HT.out]
        have HB3 := Lib.hid (HBL.out.trans (hb3.mono HBL.out.size))
        have hown3 := ownsRow_below' hown hb3
        clear hb3 hown
        go_wp2
        go_roundw
        case rel => exact ⟨k + 1, by omega, by have := HJ.out; go_num, HB3.out, by rw [HNO.out HTO.out]; exact hown3⟩
        case measure => have := HJ.out; simp [intOf]; omega
    · obtain rfl : k = 32 := by omega
      have HO := Lib.hid (at_of_owned (d := (0 : Int)) hown)
      clear hown
      go_wp2
      go_ret2
      exact ⟨_, rfl, HB1.out.trans (hbel.mono HB1.out.size), HO.out⟩

set_option maxRecDepth 100000 in
set_option maxHeartbeats 2000000 in
theorem mountseen_any {w : World} {v : Value} {l : List Mt} (hm : MS w v l) : Calls Try.prog 11 #[v] w fun e w' => e = .returned (.bool true) ∧ Below w.heap.size w w' := by
  have HMS := Lib.hid hm
  obtain ⟨a, cap, rfl, _⟩ := hm
  generalize hn : l.length = n at *
  go_enter Try.func11, Try.ntmps11
  go_wp2_with fail
  refine (mounts_any _).mono ?_
  rintro e w1 ⟨rfl, hb1⟩
  have HM1 := Lib.hid (HMS.out.below hb1)
  have HB1 := Lib.hid hb1
  clear hb1
  go_wp2_with fail
  refine (check_is HM1.out).mono ?_
  rintro e w2 ⟨en, rfl, hb2, hcase⟩
  have HM2 := Lib.hid (HM1.out.below hb2)
  have HB2 := Lib.hid (HB1.out.trans (hb2.mono HB1.out.size))
  clear hb2
  rcases hcase with ⟨rfl, hg⟩ | ⟨hen, _⟩
  · have HG := Lib.hid hg
    have HBN := Lib.hid (below_none hg)
    clear hg
    go_wp2_with fail
    go_loopw [3, 4] (fun av iv wr => ∃ k : Nat, k ≤ 32 ∧ av = .int .i64 (below l k) ∧ iv = .int .i64 ((k + 1 : Nat) : Int) ∧ Below w2.heap.size w2 wr) (fun _ iv _ => 33 - (intOf iv).toNat)
    case atStart => exact ⟨0, by omega, by rw [HBN.out]; rfl, rfl, Below.refl _ _⟩
    case round =>
      obtain ⟨k, hk, rfl, rfl, hbel⟩ := hrel
      by_cases hlt : k < 32
      · have hin : inode ((k + 1 : Nat) : Int) := ⟨by omega, by omega⟩
        have hseen := seen_is ((k + 1 : Nat) : Int) HG.out hin (HM2.out.below hbel)
        have hdown := fun w' (hb : Below wr.heap.size wr w') => downG_is ((k + 1 : Nat) : Int) HG.out hin ((HM2.out.below hbel).below hb)
        have hhas := seen_has (l := l) hlt
        have hnext := below_next l k
        have hble : below l k ≤ 32 := by
          have := List.countP_le_length (p := fun k' => decide (to l k' ≤ (k : Int))) (l := upto 32)
          simpa [below, upto] using this
        have hsl := seen_len l ((k + 1 : Nat) : Int) 32
        obtain ⟨j, hj⟩ : ∃ j : Int, j = ((k + 1 : Nat) : Int) := ⟨_, rfl⟩
        rw [← hj] at hseen hdown hhas hnext hsl ⊢
        have HJ := Lib.hid hj
        have hj32 : j ≤ 32 := by omega
        have hj1 : 1 ≤ j := by omega
        have HLT := Lib.hid hlt
        obtain ⟨c, hc⟩ : ∃ c, c = below l k := ⟨_, rfl⟩
        rw [← hc] at hble hnext ⊢
        have HS := Lib.hid hseen
        have HD := Lib.hid hdown
        have HH := Lib.hid hhas
        have HNX := Lib.hid hnext
        have HBL := Lib.hid hbel
        clear hin hseen hdown hhas hnext hj hc hbel
        go_wp2_with fail
        refine HS.out.mono ?_
        rintro e w3 ⟨vs, rfl, hb3, hat⟩
        have HB3 := Lib.hid (HBL.out.trans (hb3.mono HBL.out.size))
        have HB33 := Lib.hid hb3
        have HAT := Lib.hid hat
        obtain ⟨sa, caps, rfl, _⟩ := hat
        generalize hs : seen l j 32 = xs at *
        clear hb3
        go_wp2_with fail
        refine (HD.out _ HB33.out).mono ?_
        rintro e w4 ⟨rfl, hb4⟩
        have HB4 := Lib.hid (HB3.out.trans (hb4.mono HB3.out.size))
        have HAT4 := Lib.hid (HAT.out.keep hb4)
        generalize to l j = d at *
        clear hb4
        go_wp2_with fail
        refine (good_any _ _ [0, 0] _ (by simp) (two0 _ _)).mono ?_
        rintro e w5 ⟨rfl, rfl⟩
        rw [show ([(0 : Int), 0].all (· == 0)) = true from rfl]
        have HB5 := Lib.hid (HB4.out.alloc HB4.out.size (.cells #[.int .i64 0, .int .i64 0] 26))
        go_wp2_with fail
        refine (contains_any j (HAT4.out.keep ((Below.refl _ _).alloc (Nat.le_refl _) _)) (by omega)).mono ?_
        rintro e w6 ⟨rfl, rfl⟩
        rw [HH.out]
        clear hlt
        go_wp2
        go_roundw
        case rel =>
          refine ⟨k + 1, HLT.out, ?_, by have := HJ.out; go_num, HB5.out⟩
          rw [HNX.out]; go_num
        case measure => have := HJ.out; simp [intOf]; omega
      · obtain rfl : k = 32 := by omega
        have hall := below_all HG.out
        rw [hall]
        clear hall hlt
        go_wp2
        go_ret
        exact ⟨rfl, HB2.out.trans (hbel.mono HB2.out.size)⟩
  · have hen' : (en != 0) = true := by simp [hen]
    clear hen
    go_wp2
    go_ret
    exact ⟨rfl, HB2.out⟩
end Go.Proofs.Ytddfgdodpjmjfaa.MountLaw
