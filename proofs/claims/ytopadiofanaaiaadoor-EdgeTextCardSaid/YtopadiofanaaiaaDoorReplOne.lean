/- strings.ReplaceAll where a zero becomes a dot, at a text of any length: the shelf's contract asks for less than 2^32 - 15 bytes. -/
import Derived.Test.YtopadiofanaaiaaDoorEdgePlain
import Derived.Lib.SplitLaws
import Derived.Lib.IndexBytes
namespace Go.Proofs.YtopadiofanaaiaaDoor
open Go.RowKit Go.Maps
set_option linter.unusedVariables false
set_option linter.unusedSimpArgs false
theorem count_zero {l : List UInt8} (h : Lib.count l [0] = 0) : dots l = l := by
  refine dots_miss ?_
  by_cases e : Lib.index l [0] = -1
  · exact e
  · have := Lib.index_ge l [0]
    have := Lib.count_hit (s := l) (sub := [0]) (i := (Lib.index l [0]).toNat) (by simp) (by omega)
    omega
set_option maxRecDepth 100000 in
set_option maxHeartbeats 4000000 in
theorem repl_is (s old new : ByteArray) (w : World) (ho : old = ⟨#[0]⟩) (hn : new = ⟨#[46]⟩) (hs : s.size ≤ 140737488355328) :
    Calls Tryd.prog 16 #[.string s, .string old, .string new, .int .i64 (-1)] w fun e w' => e = .returned (.string (dotsB s)) ∧ Below w.heap.size w w' := by
  have hlen : s.data.toList.length = s.size := by simp
  obtain ⟨K, hK⟩ : ∃ K, K = Lib.count s.data.toList [0] := ⟨_, rfl⟩
  have HC : Hid (Calls Tryd.prog 23 #[.string s, .string old] w fun e w' => e = .returned (.int .i64 (K : Nat)) ∧ w' = w) := Lib.hid (by
    rw [ho, hK, Lib.count_one]
    exact Tryd.strings_Count_one s 0 w)
  have hbeq : (old.toList == new.toList) = false := (Lib.bytes_beq_false_iff old new).2 (by rw [ho, hn]; decide)
  have o1 : (old.size : Int) = 1 := by rw [ho]; rfl
  have n1 : (new.size : Int) = 1 := by rw [hn]; rfl
  have o2 : old.size = 1 := by omega
  have n2 : new.size = 1 := by omega
  have hKs : K ≤ s.size := by
    rw [hK, ← hlen, Lib.count_one]
    exact List.count_le_length
  have HO := Lib.hid ho
  have HN := Lib.hid hn
  have HK := Lib.hid hK
  have HLE := Lib.hid hlen
  have hsb : (s.size : Int) ≤ 140737488355328 := by omega
  have hKb : (K : Int) ≤ s.size := by omega
  clear ho hn hK hlen
  by_cases hK0 : K = 0
  · have hcz : ((K : Int) == 0) = true := by rw [hK0]; rfl
    go_enter Tryd.func16, Tryd.ntmps16
    go_wp2_with (go_at_call 23; refine HC.out.mono ?_; rintro e w' ⟨rfl, rfl⟩)
    go_ret
    refine ⟨?_, Below.refl _ _⟩
    have h : dots s.data.toList = s.data.toList := count_zero (by rw [← HK.out, hK0])
    unfold dotsB
    rw [h, Lib.mk_data]
    rfl
  · have hcz : ((K : Int) == 0) = false := beq_eq_false_iff_ne.2 (by omega)
    have hod : decide (0 < old.size) = true := decide_eq_true (by omega)
    have H0 : Hid (0 < K) := Lib.hid (by omega)
    clear hK0
    go_enter Tryd.func16, Tryd.ntmps16
    go_wp2_with (go_at_call 23; refine HC.out.mono ?_; rintro e w' ⟨rfl, hw⟩; rw [hw])
    refine (Tryd.Builder_Grow_fresh w.heap.size w.heap.size _ _ (Nat.le_refl _) (heap_alloc_new w _) (by simp) (by omega)).mono ?_
    rintro e w1 ⟨rfl, hb0, hb1⟩
    have H1 := Lib.hid (Or.inr hb0 : Lib.IsBuilder 64 5 w.heap.size w.heap.size (Lib.byteCells []) w1)
    have Hb1 := Lib.hid (((Below.refl w.heap.size w).alloc (Nat.le_refl _) _).trans hb1)
    clear hb0 hb1
    go_wp2_with fail
    go_loopg [11, 53] K (fun g s11 s53 wx => ∃ (i start : Nat) (acc : List UInt8), s53 = .int .i64 i ∧ s11 = .int .i64 start ∧ i + g = K ∧ start ≤ s.size ∧ acc.length = start ∧
      Hid (Lib.IsBuilder 64 5 w.heap.size w.heap.size (Lib.byteCells acc) wx) ∧ Hid (Below w.heap.size w wx) ∧ Hid (acc ++ dots (s.data.toList.drop start) = dots s.data.toList) ∧ Hid (g = Lib.count (s.data.toList.drop start) [0]))
    case atStart => exact ⟨0, 0, [], rfl, rfl, by omega, Nat.zero_le _, rfl, H1, Hb1, Lib.hid (by simp), Lib.hid (by rw [List.drop_zero]; exact HK.out)⟩
    case round =>
      obtain ⟨i, start, acc, rfl, rfl, hig, hst, hal, HB, HW, HR, HG⟩ := hrel
      have hBw : w.heap.size ≤ wr.heap.size := HW.out.size
      have c1 : (0 : Int) ≤ (start : Int) := by omega
      have c2 : (start : Int) ≤ (s.size : Int) := by omega
      cases gk with
      | zero =>
        have hiK : ¬ ((i : Int) < (K : Int)) := by omega
        go_wp2_with fail
        refine (Any.Builder_WriteString { Tryd.lays154 with } Tryd.Builder_Extra_154 w.heap.size w.heap.size _ _ wr HB.out (by rw [Lib.byteCells_length, ByteArray.size_extract]; omega) hBw).mono ?_
        rintro e w3 ⟨rfl, h3, hb3⟩
        rw [Lib.strCells_eq, Lib.extract_to_end, ← Lib.byteCells_append] at h3
        have hfin : acc ++ s.data.toList.drop start = dots s.data.toList := by rw [← HR.out, count_zero HG.out.symm]
        rw [hfin] at h3
        have H3 := Lib.hid (Or.inr h3 : Lib.IsBuilder 64 5 w.heap.size w.heap.size _ w3)
        have Hb3 := Lib.hid (HW.out.trans hb3)
        have hBw3 : w.heap.size ≤ w3.heap.size := Hb3.out.size
        clear h3 hb3 hfin
        go_wp2_with fail
        refine (Any.Builder_String_any { Tryd.lays154 with } Tryd.Builder_Extra_154 w.heap.size w.heap.size _ w3 H3.out hBw3).mono ?_
        rintro e w5 ⟨rfl, hb5⟩
        have Hb5 := Lib.hid (Hb3.out.trans hb5)
        clear hb5
        go_wp2
        go_ret
        exact ⟨rfl, Hb5.out⟩
      | succ g =>
        have hiK : (i : Int) < (K : Int) := by omega
        obtain ⟨j, hj⟩ := Lib.index_of_count (s := s.data.toList.drop start) (old := [0]) (by have := HG.out; omega)
        obtain ⟨hdh, hjl⟩ := dots_hit hj
        have hroom : start + j + 1 ≤ s.size := by
          rw [List.length_drop, HLE.out] at hjl
          omega
        have hcnt : g = Lib.count (s.data.toList.drop (start + j + 1)) [0] := by
          have h := Lib.count_hit (s := s.data.toList.drop start) (sub := [0]) (i := j) (by simp) hj
          rw [List.drop_drop, List.length_singleton, ← Nat.add_assoc] at h
          have := HG.out
          omega
        have hrep : (acc ++ (s.data.toList.drop start).take j ++ [46]) ++ dots (s.data.toList.drop (start + j + 1)) = dots s.data.toList := by
          rw [← HR.out, hdh, List.drop_drop, Nat.add_assoc]
          simp only [List.append_assoc]
        have htl : ((s.data.toList.drop start).take j).length = j := by rw [List.length_take]; omega
        have hnew : Lib.strCells new = Lib.byteCells [46] := by rw [Lib.strCells_eq, HN.out]
        have hnext : Lib.byteCells acc ++ Lib.strCells (s.extract start (start + j)) ++ Lib.strCells new = Lib.byteCells (acc ++ (s.data.toList.drop start).take j ++ [46]) := by
          rw [hnew, Lib.strCells_eq, Lib.extract_data, Nat.add_sub_cancel_left, ← Lib.byteCells_append, ← Lib.byteCells_append]
        have HI : Hid (Calls Tryd.prog 25 #[.string (s.extract start s.size), .string old] wr fun e w' => e = .returned (.int .i64 (j : Nat)) ∧ w' = wr) := Lib.hid (by
          have h := Tryd.strings_Index_one (s.extract start s.size) 0 wr
          rw [← Lib.index_one, Lib.extract_to_end, hj] at h
          rw [HO.out]
          exact h)
        have c3 : (start : Int) ≤ (start : Int) + (j : Int) := by omega
        have c4 : (start : Int) + (j : Int) ≤ (s.size : Int) := by omega
        have Hn := Lib.hid hnext
        have Hrep := Lib.hid hrep
        have Hcnt := Lib.hid hcnt
        clear hnext hrep hcnt HR hnew hdh hjl hj HG
        go_wp2_with (go_at_call 25; refine HI.out.mono ?_; rintro e w' ⟨rfl, hw⟩; rw [hw])
        refine (Any.Builder_WriteString { Tryd.lays154 with } Tryd.Builder_Extra_154 w.heap.size w.heap.size _ (s.extract start (start + j)) wr HB.out (by rw [Lib.byteCells_length, ByteArray.size_extract]; omega) hBw).mono ?_
        rintro e w3 ⟨rfl, h3, hb3⟩
        have hBw3 : w.heap.size ≤ w3.heap.size := Nat.le_trans hBw hb3.size
        have H3 := Lib.hid h3
        have Hb3 := Lib.hid hb3
        clear h3 hb3
        go_wp2_with fail
        refine (Any.Builder_WriteString { Tryd.lays154 with } Tryd.Builder_Extra_154 w.heap.size w.heap.size _ new w3 (Or.inr H3.out) (by rw [List.length_append, Lib.byteCells_length, Lib.strCells_length, ByteArray.size_extract]; omega) hBw3).mono ?_
        rintro e w4 ⟨rfl, h4, hb4⟩
        rw [Hn.out] at h4
        have H4 := Lib.hid (Or.inr h4 : Lib.IsBuilder 64 5 w.heap.size w.heap.size _ w4)
        have Hb4 := Lib.hid ((HW.out.trans Hb3.out).trans hb4)
        clear h4 hb4
        go_wp2
        go_roundg g
        case measure => omega
        case rel => exact ⟨i + 1, start + j + 1, _, by first | rfl | (simp; unfold wrap64; omega), by first | rfl | simp | (simp; unfold wrap64; omega), by omega, hroom, by simp only [List.length_append, htl, List.length_singleton]; omega, H4, Hb4, Hrep, Hcnt⟩
set_option maxRecDepth 100000 in
set_option maxHeartbeats 1000000 in
/-- strings.ReplaceAll of zeros by dots -/
theorem dots_any (s : ByteArray) (w : World) (hs : s.size ≤ 140737488355328) : Calls Tryd.prog 8 #[.string s, .string ⟨#[0]⟩, .string ⟨#[46]⟩] w fun e w' => e = .returned (.string (dotsB s)) ∧ Below w.heap.size w w' := by
  have HR := Lib.hid (repl_is s ⟨#[0]⟩ ⟨#[46]⟩ w rfl rfl hs)
  go_enter Tryd.func8, Tryd.ntmps8
  go_wp2_with (go_at_call 16; refine HR.out.mono ?_; rintro e w' ⟨rfl, hb⟩; have HB := Lib.hid hb; clear hb)
  go_ret
  exact ⟨rfl, HB.out⟩
end Go.Proofs.YtopadiofanaaiaaDoor
