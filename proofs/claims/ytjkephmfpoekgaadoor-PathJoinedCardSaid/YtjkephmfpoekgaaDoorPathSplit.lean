/- The walk of path.Split. -/
import Derived.Test.YtjkephmfpoekgaaDoorMounts
import Derived.Test.YtjkephmfpoekgaaDoorShelf
import Derived.Test.YtjkephmfpoekgaaDoorOwn
namespace Go.Proofs.YtjkephmfpoekgaaDoor.PathLaw
open Go.RowKit Go.Proofs.YtjkephmfpoekgaaDoor.CredLaw
set_option linter.unusedVariables false
set_option linter.unusedSimpArgs false
def app50 := Builtin.append_ #[50, 50] 50
theorem app50_eq : Builtin.append_ #[50, 50] 50 = app50 := rfl
theorem info9 : (Tryd.prog.info? 9).map (fun i => (i.zero, i.size, i.bytes)) = some (some (.string ⟨#[]⟩), 1, 16) := by kernel_rfl
def fullB (L : List ByteArray) : List ByteArray := L.filter (fun p => !p.data.toList.isEmpty)
theorem fullB_full : ∀ L : List ByteArray, fullB L = full (L.map (·.data.toList))
  | [] => rfl
  | p :: L => by
    have ih := fullB_full L
    unfold fullB full at *
    rw [List.map_cons, List.filter_cons, List.filter_cons]
    cases h : (!p.data.toList.isEmpty)
    · simpa using ih
    · rw [if_pos rfl, if_pos rfl, List.map_cons, ih]; rfl
theorem fullB_snoc (L : List ByteArray) (p : ByteArray) : fullB (L ++ [p]) = fullB L ++ if p.data.toList.isEmpty then [] else [p] := by
  unfold fullB
  rw [List.filter_append]
  cases h : p.data.toList.isEmpty
  · rw [if_neg (by decide)]; simp only [List.filter_cons, h]; rfl
  · rw [if_pos rfl]; simp only [List.filter_cons, h]; rfl
theorem take_snocB {L : List ByteArray} {i : Nat} (h : i < L.length) : L.take (i + 1) = L.take i ++ [L.getD i ⟨#[]⟩] := by
  rw [List.take_succ_eq_append_getElem h]
  simp [List.getD, h]
def SplitPost (s : ByteArray) (w : World) (E : Ending) (w' : World) : Prop :=
  ∃ v, E = .returned (.tuple #[.bool (splitT s.data.toList).1, v, .int .i64 (splitT s.data.toList).2.2]) ∧ w'.ownsRow w.heap.size 9 1 v (splitT s.data.toList).2.1.length ((splitT s.data.toList).2.1.map Value.string) ∧ Below w.heap.size w w'
theorem SplitPost.mk {s : ByteArray} {w w' : World} {g : Bool} {l : List ByteArray} {e : Int} {v : Value} {E : Ending} (h : splitT s.data.toList = (g, l, e)) (hE : E = .returned (.tuple #[.bool g, v, .int .i64 e])) (ho : w'.ownsRow w.heap.size 9 1 v l.length (l.map Value.string)) (hb : Below w.heap.size w w') : SplitPost s w E w' := by
  unfold SplitPost
  rw [h]
  exact ⟨v, hE, ho, hb⟩
theorem parts_count : ∀ (n : Nat) (s : List UInt8), s.length ≤ n → (parts s).length = Lib.count s [47] + 1
  | n, s, hn => by
    rcases index_spec1 s with ⟨h1, h2⟩ | ⟨i, h1, h2, h3⟩
    · rw [Lib.count_miss h1, h2]; rfl
    · rw [Lib.count_hit (by simp) h1, h2]
      cases n with
      | zero => omega
      | succ n =>
        have := parts_count n (s.drop (i + 1)) (by simp; omega)
        simp only [List.length_cons, List.length_nil, Nat.zero_add]
        omega
theorem parts_len_le : ∀ s : List UInt8, (parts s).length ≤ s.length + 1
  | [] => by simp [parts]
  | c :: r => by
    have ih := parts_len_le r
    by_cases h : c = 47
    · subst h; rw [parts_slash]; simpa using ih
    · obtain ⟨p, ps, h1, h2⟩ := parts_cons (r := r) h
      rw [h1] at ih
      rw [h2]
      simp at ih ⊢
      omega
theorem fullB_le (L : List ByteArray) : (fullB L).length ≤ L.length := List.length_filter_le _ _
theorem all14 {L : List ByteArray} {P : List (List UInt8)} (h : L.map (·.data.toList) = P) (ha : ∀ p ∈ L, p.size ≤ 14) : P.all (fun p => decide (p.length ≤ 14)) = true := by
  rw [← h, List.all_eq_true]
  intro q hq
  obtain ⟨p, hp, rfl⟩ := List.mem_map.1 hq
  have := ha p hp
  simpa using this
theorem not14 {L : List ByteArray} {P : List (List UInt8)} (h : L.map (·.data.toList) = P) {i : Nat} (hi : i < L.length) (hp : 14 < (L.getD i ⟨#[]⟩).size) : P.all (fun p => decide (p.length ≤ 14)) = false := by
  rw [← h, Bool.eq_false_iff]
  intro ha
  rw [List.all_eq_true] at ha
  have := ha (L.getD i ⟨#[]⟩).data.toList (List.mem_map.2 ⟨_, by simp [List.getD, hi], rfl⟩)
  simp at this
  simp at hp
  omega
theorem head_is (s : ByteArray) (h : 0 < s.size) : (s.data.toList.head? == some 47) = (((s[0].toNat : Nat) : Int) == 47) := by
  obtain ⟨⟨l⟩⟩ := s
  cases l with
  | nil => exact absurd h (by decide)
  | cons c r =>
    show (some c == some 47) = (((c.toNat : Nat) : Int) == 47)
    rw [Bool.eq_iff_iff]
    simp only [beq_iff_eq, Option.some.injEq]
    constructor
    · intro e; rw [e]; rfl
    · intro e
      apply UInt8.toNat_inj.1
      show c.toNat = 47
      omega
def SplitW (w : World) (L : List ByteArray) (w1 : World) : Prop := Below w.heap.size w w1 ∧ w1.heap.size = w.heap.size + 1 ∧ ∀ j, j < L.length → w1.cell? ⟨w.heap.size, j, none⟩ = some (.string (L.getD j ⟨#[]⟩))
theorem splits_is (s : ByteArray) (m : Int) (w : World) (hs : s.size ≤ 64) (hm : w.cell? ⟨0, 0, none⟩ = some (.int .i64 m)) : ∃ L : List ByteArray, L.map (·.data.toList) = parts s.data.toList ∧ L.length ≤ 65 ∧
    Calls Tryd.prog 36 #[.string s, .string ⟨#[47]⟩] w fun e w' => e = .returned (.slice (some ⟨w.heap.size, 0, none⟩) L.length L.length) ∧ SplitW w L w' := by
  have hL : (Lib.splitB ⟨#[47]⟩ 0 (Lib.countB s ⟨#[47]⟩) s).map (·.data.toList) = parts s.data.toList := splitB_parts s
  have hlen : Lib.countB s ⟨#[47]⟩ + 1 = (Lib.splitB ⟨#[47]⟩ 0 (Lib.countB s ⟨#[47]⟩) s).length := by
    rw [← List.length_map (f := fun p : ByteArray => p.data.toList), hL, parts_count _ _ (Nat.le_refl _)]
  refine ⟨_, hL, ?_, (Tryd.strings_Split s ⟨#[47]⟩ m w (by omega) hm (by decide)).mono fun e w' he => ?_⟩
  · rw [← List.length_map (f := fun p : ByteArray => p.data.toList), hL]
    have := parts_len_le s.data.toList
    have hsz : s.size = s.data.toList.length := by simp
    omega
  · obtain ⟨h1, h2⟩ := he
    rw [← hlen]
    refine ⟨h1, ?_⟩
    subst h2
    refine ⟨Go.Joins.below_alloc1 _ _, by simp, fun j hj => ?_⟩
    rw [cell_of_row _ _ _ _ _ _ (heap_alloc_new w _)]
    simp [List.getD, hj]
attribute [local go_sem ↓] app50_eq
set_option maxRecDepth 100000 in
set_option maxHeartbeats 400000 in
theorem split_is (s : ByteArray) (m : Int) (w : World) (hm : w.cell? ⟨0, 0, none⟩ = some (.int .i64 m)) : Calls Tryd.prog 22 #[.string s] w (SplitPost s w) := by
  have hsz : s.size = s.data.toList.length := by simp
  have hnil : w.ownsRow w.heap.size 9 1 (.slice none 0 0) ([] : List ByteArray).length (([] : List ByteArray).map Value.string) := World.ownsRow_nil _ _ _ _
  by_cases h1 : 64 < s.size
  · have HS := Lib.hid (show splitT s.data.toList = (false, [], 2) by rw [splitT, if_pos (by rw [← hsz]; exact h1)])
    have HN := Lib.hid hnil
    have i1 : (64 : Int) < (s.size : Int) := by omega
    clear hsz hm hnil
    go_enter Tryd.func22, Tryd.ntmps22
    go_wp2
    go_ret3
    exact SplitPost.mk HS.out rfl HN.out (Below.refl _ _)
  · have i1 : ¬ ((64 : Int) < (s.size : Int)) := by omega
    by_cases h2 : s.size = 0
    · have hd : s.data.toList = [] := List.eq_nil_of_length_eq_zero (by rw [← hsz]; exact h2)
      have HS := Lib.hid (show splitT s.data.toList = (false, [], 3) by rw [splitT, if_neg (by rw [← hsz]; exact h1), if_pos hd])
      have HN := Lib.hid hnil
      have d2 : s.toList.isEmpty = true := by rw [Lib.toList_data, hd]; rfl
      have d3 : s.toList = [] := by rw [Lib.toList_data, hd]
      clear hsz hm hnil hd h2
      go_enter Tryd.func22, Tryd.ntmps22
      go_wp2
      go_ret3
      exact SplitPost.mk HS.out rfl HN.out (Below.refl _ _)
    · have hd : s.data.toList ≠ [] := fun h => h2 (by rw [hsz, h]; rfl)
      have d2 : s.toList.isEmpty = false := by rw [Lib.toList_data]; cases hq : s.data.toList with
        | nil => exact absurd hq hd
        | cons x y => rfl
      have HS := Lib.hid (show splitT s.data.toList = if (parts s.data.toList).all (fun p => decide (p.length ≤ 14)) then (s.data.toList.head? == some 47, full (parts s.data.toList), 0) else (false, [], 3) by rw [splitT, if_neg (by rw [← hsz]; exact h1), if_neg hd])
      obtain ⟨L, hL, h65, hsp⟩ := splits_is s m w (by omega) hm
      have HSP := Lib.hid hsp
      have HSZ := Lib.hid hsz
      have HL := Lib.hid hL
      clear hm hnil hsz hd hsp hL
      go_enter Tryd.func22, Tryd.ntmps22
      go_upto_region 7 with (go_at_call 36; refine HSP.out.mono ?_; rintro e w1 ⟨rfl, hw1⟩)
      obtain ⟨hB1, hz1, hc1⟩ := hw1
      clear HSP
      have HB1 := Lib.hid hB1
      have HZ1 := Lib.hid hz1
      have HC1 := Lib.hid hc1
      have HO0 := Lib.hid (show w1.ownsRow w1.heap.size 9 1 (.slice none 0 0) (fullB (L.take 0)).length ((fullB (L.take 0)).map Value.string) from World.ownsRow_nil _ _ _ _)
      have hp0 : 0 < s.size := Nat.pos_of_ne_zero h2
      clear hB1 hz1 hc1 h1 h2
      go_loopw [5, 16] (fun ov iv wr => ∃ i : Nat, i ≤ L.length ∧ iv = .int .i64 i ∧ Hid (∀ p ∈ L.take i, p.size ≤ 14) ∧ Hid (Below w1.heap.size w1 wr) ∧ Hid (wr.ownsRow w1.heap.size 9 1 ov (fullB (L.take i)).length ((fullB (L.take i)).map Value.string))) (fun _ iv _ => L.length - (intOf iv).toNat)
      case atStart => exact ⟨0, Nat.zero_le _, rfl, Lib.hid (fun p hp => by simp at hp), Lib.hid (Below.refl _ _), HO0⟩
      case round =>
        obtain ⟨i, hi, rfl, HA, HR, HO⟩ := hrel
        by_cases hil : i < L.length
        · have hii : (i : Int) < (L.length : Int) := by omega
          have e0 := (HR.out.cell (p := ⟨w.heap.size, i, none⟩) (by show w.heap.size < _; rw [HZ1.out]; exact Nat.lt_succ_self _)).trans (HC1.out i hil)
          have HN := Lib.hid (fun hp => not14 HL.out hil hp)
          have HT := Lib.hid (take_snocB hil)
          generalize L.getD i ⟨#[]⟩ = p at *
          by_cases hp : 14 < p.size
          · have i2 : (14 : Int) < (p.size : Int) := by omega
            have HS' := Lib.hid (HS.out.trans (if_neg (by rw [HN.out hp]; decide)))
            have HB := Lib.hid (HB1.out.trans (HR.out.mono HB1.out.size))
            clear hp
            go_wp2_with fail
            go_ret3
            exact SplitPost.mk HS'.out rfl (World.ownsRow_nil _ _ _ _) HB.out
          · have i2 : ¬ ((14 : Int) < (p.size : Int)) := by omega
            have HA' : Hid (∀ q ∈ L.take (i + 1), q.size ≤ 14) := Lib.hid (fun q hq => by
              rw [HT.out] at hq
              rcases List.mem_append.1 hq with hq | hq
              · exact HA.out q hq
              · simp at hq; subst hq; omega)
            have HF := Lib.hid (fullB_snoc (L.take i) p)
            rw [← HT.out] at HF
            cases he : p.data.toList.isEmpty
            · have d4 : p.toList.isEmpty = false := by rw [Lib.toList_data, he]
              rw [he] at HF
              have hbA := Go.Joins.below_alloc1 wr (.cells #[.string p] 9)
              have HBA := Lib.hid hbA
              obtain ⟨i0, hi9, hz0, hz1, hz2⟩ := info_parts info9
              have hfl := fullB_le (L.take i)
              rw [List.length_take] at hfl
              obtain ⟨v2, w2, hap, own2, grow2, -⟩ := run_append_fresh (P := Tryd.prog) (wr.alloc (.cells #[.string p] 9)) w1.heap.size 50 50 9 i0 (.string ⟨#[]⟩) 1 16 Tryd.underlying50 hi9 hz0 hz1 hz2 rfl (by decide) u5 _ _ (owns_keep HO.out hbA) ⟨wr.heap.size, 0, none⟩ 1 1 [.string p] rfl (cells_new wr [.string p] 9) (by simp [Value.oneCell']) (by unfold maxLen; omega) (by omega) (by have := HR.out.size; simp; omega)
              rw [app50_eq] at hap
              have HW2 := Lib.hid (((HR.out.trans (hbA.mono HR.out.size))).grown grow2 (by have := HR.out.size; simp; omega) (fun k hk => (HO.out.lt k hk).1))
              have HO2 : Hid (w2.ownsRow w1.heap.size 9 1 v2 (fullB (L.take (i + 1))).length ((fullB (L.take (i + 1))).map Value.string)) := Lib.hid (by rw [HF.out, if_neg (by decide), List.length_append, List.map_append]; exact own2)
              clear hbA own2 grow2 hz0 hz1 hz2 hi9
              go_wp2_with fail
              go_roundw
              case rel => exact ⟨i + 1, by omega, by go_num, HA', HW2, HO2⟩
              case measure => simp [intOf]; omega
            · have d4 : p.toList.isEmpty = true := by rw [Lib.toList_data, he]
              rw [he] at HF
              have HO2 : Hid (wr.ownsRow w1.heap.size 9 1 u5 (fullB (L.take (i + 1))).length ((fullB (L.take (i + 1))).map Value.string)) := Lib.hid (by rw [HF.out, if_pos rfl, List.append_nil]; exact HO.out)
              go_wp2_with fail
              go_roundw
              case rel => exact ⟨i + 1, by omega, by go_num, HA', HR, HO2⟩
              case measure => simp [intOf]; omega
        · obtain rfl : i = L.length := by omega
          have hA := HA.out
          rw [List.take_length] at hA
          have HS' := Lib.hid (HS.out.trans (if_pos (all14 HL.out hA)))
          have hO := HO.out
          rw [List.take_length] at hO
          have HB := Lib.hid (HB1.out.trans (HR.out.mono HB1.out.size))
          have HO' := Lib.hid (owns_base hO (show w.heap.size ≤ w1.heap.size by rw [HZ1.out]; exact Nat.le_succ _))
          clear hA hO
          go_wp2_with fail
          go_ret3
          exact SplitPost.mk (HS'.out.trans (by rw [head_is s hp0, ← HL.out, ← fullB_full])) rfl HO'.out HB.out
end Go.Proofs.YtjkephmfpoekgaaDoor.PathLaw
