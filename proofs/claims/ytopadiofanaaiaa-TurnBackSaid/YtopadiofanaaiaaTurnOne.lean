/- The walk of ringkeep5.TurnOne. -/
import Derived.Test.YtopadiofanaaiaaTurnLost
namespace Go.Proofs.Ytopadiofanaaiaa.TurnLaw
open Go.RowKit
set_option linter.unusedVariables false

/-- programs in a slice of the call's own -/
def PR (w : World) (B : Nat) (v : Value) (ps : List (List D)) : Prop :=
  ∃ vals : List Value, w.ownsRow B 35 1 v ps.length vals ∧ vals.length = ps.length ∧ ∀ j, j < ps.length → ∃ pa pc, vals[j]? = some (.slice pa (pAt ps j).length pc) ∧ (pAt ps j = [] ∨ ∃ b, pa = some ⟨b, 0, none⟩ ∧ ProgAt w b (pAt ps j) ∧ v.ownBlock ≠ some b)
theorem PR.nil (w : World) (B : Nat) : PR w B (.slice none 0 0) [] := ⟨[], World.ownsRow_nil _ _ _ _, rfl, fun j hj => absurd hj (Nat.not_lt_zero _)⟩
theorem PR.progs {w : World} {B : Nat} {v : Value} {ps : List (List D)} (h : PR w B v ps) : Progs w v ps := by
  obtain ⟨vals, hown, hlen, hp⟩ := h
  rcases hown.2 with ⟨rfl, hn⟩ | ⟨g, cap, cur, rfl, hb, hg, _⟩
  · exact ⟨none, 0, by rw [hn], .inl (List.eq_nil_of_length_eq_zero hn)⟩
  · refine ⟨_, cap, rfl, .inr ⟨g, rfl, (Array.getElem?_eq_some_iff.1 hg).1, fun i hi => ?_⟩⟩
    obtain ⟨pa, pc, hv, hq⟩ := hp i hi
    refine ⟨pa, pc, (hown.cellAt i (by omega)).trans hv, ?_⟩
    rcases hq with hq | ⟨b, hb, hq, _⟩
    · exact .inl hq
    · exact .inr ⟨b, hb, hq⟩
theorem ProgAt.grown {w w' : World} {b : Nat} {p : List D} {g : Option Nat} (h : ProgAt w b p) (hg : w.grownBy w' g) (hne : g ≠ some b) : ProgAt w' b p := by
  have hbl : ∀ (a : Addr), a.block = b → w'.cell? a = w.cell? a := by
    intro a ha
    have := hg.block b h.1 (fun e => hne e.symm)
    subst ha
    unfold World.cell?
    rw [this]
  refine ⟨Nat.lt_of_lt_of_le h.1 hg.size, fun j hj => ?_⟩
  obtain ⟨h0, h1, h2⟩ := h.2 j hj
  exact ⟨(hbl _ rfl).trans h0, (hbl _ rfl).trans h1, (hbl _ rfl).trans h2⟩
theorem pAt_left {ps : List (List D)} {p : List D} {j : Nat} (h : j < ps.length) : pAt (ps ++ [p]) j = pAt ps j := by
  simp [pAt, List.getD, h, List.getElem?_append_left]
theorem pAt_last (ps : List (List D)) (p : List D) : pAt (ps ++ [p]) ps.length = p := by simp [pAt, List.getD]
theorem PR.keep {w w' : World} {B : Nat} {v : Value} {ps : List (List D)} (h : PR w B v ps) (hb : Below w.heap.size w w') : PR w' B v ps := by
  obtain ⟨vals, hown, hlen, hp⟩ := h
  refine ⟨vals, hown.kept (row := none) ⟨hb.os, hb.tape, hb.output, hb.size, fun k hk _ => hb.block k hk⟩ (by cases hv : v.ownBlock <;> simp), hlen, fun j hj => ?_⟩
  obtain ⟨pa, pc, hv, hq⟩ := hp j hj
  refine ⟨pa, pc, hv, ?_⟩
  rcases hq with hq | ⟨b, hb', hq, hne⟩
  · exact .inl hq
  · exact .inr ⟨b, hb', hq.keep hb (Nat.le_refl _), hne⟩
/-- behind an append -/
theorem PR.append {w w7 : World} {B : Nat} {v v7 : Value} {ps : List (List D)} {p : List D} {pa : Option Addr} {pc : Nat} {vals : List Value}
    (hlen : vals.length = ps.length) (hp : ∀ j, j < ps.length → ∃ pa pc, vals[j]? = some (.slice pa (pAt ps j).length pc) ∧ (pAt ps j = [] ∨ ∃ b, pa = some ⟨b, 0, none⟩ ∧ ProgAt w b (pAt ps j) ∧ v.ownBlock ≠ some b))
    (own7 : w7.ownsRow B 35 1 v7 (ps.length + 1) (vals ++ [.slice pa p.length pc])) (grow7 : w.grownBy w7 v.ownBlock) (fresh7 : v7.ownBlock = v.ownBlock ∨ ∃ g, w.heap.size ≤ g ∧ v7.ownBlock = some g)
    (hnew : p = [] ∨ ∃ b, pa = some ⟨b, 0, none⟩ ∧ ProgAt w b p ∧ v.ownBlock ≠ some b) : PR w7 B v7 (ps ++ [p]) := by
  have hne : ∀ {q : List D} {b : Nat}, ProgAt w b q → v.ownBlock ≠ some b → v7.ownBlock ≠ some b := by
    intro q b hq hb
    rcases fresh7 with h | ⟨g, h1, h2⟩
    · rw [h]; exact hb
    · rw [h2]
      intro e
      have := Option.some.inj e
      have := hq.1
      omega
  refine ⟨vals ++ [.slice pa p.length pc], by simpa using own7, by simp [hlen], fun j hj => ?_⟩
  rcases Nat.lt_or_ge j ps.length with hl | hl
  · obtain ⟨pa', pc', hv, hq⟩ := hp j hl
    rw [pAt_left hl]
    refine ⟨pa', pc', by rw [List.getElem?_append_left (by omega)]; exact hv, ?_⟩
    rcases hq with hq | ⟨b, hb, hq, hn⟩
    · exact .inl hq
    · exact .inr ⟨b, hb, hq.grown grow7 hn, hne hq hn⟩
  · have hje : j = ps.length := by simp at hj; omega
    subst hje
    rw [pAt_last]
    refine ⟨pa, pc, by rw [List.getElem?_append_right (by omega), hlen]; simp, ?_⟩
    rcases hnew with hq | ⟨b, hb, hq, hn⟩
    · exact .inl hq
    · exact .inr ⟨b, hb, hq.grown grow7 hn, hne hq hn⟩
theorem info35 : (Try.prog.info? 35).map (fun i => (i.zero, i.size, i.bytes)) = some (some (.slice none 0 0), 1, 24) := by kernel_rfl
theorem oneS {a : Option Addr} {n c : Nat} : ∀ u ∈ [Value.slice a n c], u.oneCell' = true := by intro u hu; simp at hu; subst hu; rfl

def progsOne (n : Nat) : List (List D) := (List.range n).map (fun i => [(6, 0, i + 1)])
theorem progsOne_succ (n : Nat) : progsOne (n + 1) = progsOne n ++ [[(6, 0, n + 1)]] := by simp [progsOne, List.range_succ]
theorem progsOne_length (n : Nat) : (progsOne n).length = n := by simp [progsOne]
def handsOne (n o : Nat) : List Nat := (List.range n).map (fun i => if i = o then 0 else o + 1)
def oneB (n z : Nat) : Bool :=
  let o := atR (List.replicate n 1) z
  (playR (progsOne n) o [0] (List.replicate n 0) (List.replicate n 0) == some ([if n = 0 then 0 else o.getD 0 0 + 1], handsOne n (o.getD 0 0))) && (o.length == n) && (n == 0 || decide (o.getD 0 0 < n))
theorem one_all : ∀ n : Fin 5, ∀ z : Fin 24, z.val < countR (List.replicate n.val 1) → oneB n.val z.val = true := by decide +kernel
theorem one_le : ∀ n : Fin 5, countR (List.replicate n.val 1) ≤ 24 ∧ 1 ≤ countR (List.replicate n.val 1) := by decide +kernel
theorem one_law {n z : Nat} (hn : n ≤ 4) (h : z < countR (List.replicate n 1)) : playR (progsOne n) (atR (List.replicate n 1) z) [0] (List.replicate n 0) (List.replicate n 0) = some ([if n = 0 then 0 else (atR (List.replicate n 1) z).getD 0 0 + 1], handsOne n ((atR (List.replicate n 1) z).getD 0 0)) ∧ (atR (List.replicate n 1) z).length = n ∧ (n = 0 ∨ (atR (List.replicate n 1) z).getD 0 0 < n) := by
  have h24 := (one_le ⟨n, by omega⟩).1
  have := one_all ⟨n, by omega⟩ ⟨z, Nat.lt_of_lt_of_le h h24⟩ h
  unfold oneB at this
  simp only [Bool.and_eq_true, Bool.or_eq_true, beq_iff_eq, decide_eq_true_eq] at this
  exact ⟨this.1.1, this.1.2, this.2⟩
theorem good1 {n : Nat} (h : n ≤ 4) : good4 (List.replicate n 1) := ⟨by simpa using h, by simp; omega⟩
theorem okOne (n : Nat) (hn : n ≤ 4) : okPs 1 (progsOne n) := by
  intro i hi j hj
  rw [progsOne_length] at hi
  have hp : pAt (progsOne n) i = [(6, 0, i + 1)] := by simp [pAt, progsOne, List.getD, hi]
  rw [hp] at hj ⊢
  have : j = 0 := by simpa using hj
  subst this
  exact ⟨by simp [dAt], by simp [dAt], by simp [dAt], by simp [dAt]; omega⟩
theorem prog_one (w : World) (i : Nat) (T : TypeId) : ProgAt (w.alloc (.cells #[.int .i64 6, .int .i64 0, .int .i64 ((i : Int) + 1)] T)) w.heap.size [(6, 0, i + 1)] := by
  refine ⟨by simp, fun j hj => ?_⟩
  have : j = 0 := by simpa using hj
  subst this
  refine ⟨?_, ?_, ?_⟩ <;> (rw [cell_of_row _ _ _ _ _ _ (heap_alloc_new _ _)]; rfl)
abbrev B0 : Obj := .cells #[.int .u32 0] 33
theorem u32_0 (w : World) : U32S (w.alloc B0) (.slice (some ⟨w.heap.size, 0, none⟩) 1 1) [0] := at_new w [0] 33 (by decide)

theorem play_one {w : World} {n c : Nat} {v v7 : Value} {o hs : List Nat} (hp : Progs w v7 (progsOne n)) (hn : n ≤ 4) (ho : NatS w v o) (hol : o.length = n) (hr : playR (progsOne n) o [0] (List.replicate n 0) (List.replicate n 0) = some ([c], hs)) :
    Calls Try.prog 20 #[.slice (some ⟨w.heap.size, 0, none⟩) 1 1, v7, v] (w.alloc B0) fun e w' => (∃ v1 v2, e = .returned (.tuple #[v1, v2, .int .i64 0]) ∧ U32S w' v1 [c] ∧ U32S w' v2 hs) ∧ Below w.heap.size w w' := by
  have hb1 := Go.Joins.below_alloc1 w B0
  refine (play_is (u32_0 w) (by decide) (by decide) (by decide) (hp.keep hb1 (Nat.le_refl _)) (by rw [progsOne_length]; exact hn) (fun i hi => ?_) (okOne n hn) (ho.keep hb1) (by omega) (by rw [progsOne_length]; exact hr)).mono ?_
  · rw [progsOne_length] at hi
    have hp : pAt (progsOne n) i = [(6, 0, i + 1)] := by simp [pAt, progsOne, List.getD, hi]
    rw [hp]; simp
  · rintro e w' ⟨v1, v2, rfl, h3, h4, hb⟩
    exact ⟨⟨v1, v2, rfl, h3, h4⟩, hb1.trans (hb.mono (by simp))⟩
theorem handsOne_get {n o i : Nat} (h : i < n) : (handsOne n o).getD i 0 = if i = o then 0 else o + 1 := by
  simp [handsOne, List.getD, h]
theorem handsOne_length (n o : Nat) : (handsOne n o).length = n := by simp [handsOne]

set_option maxRecDepth 100000 in
set_option maxHeartbeats 1000000 in
theorem turnone_any {w : World} {v : Value} {xs : List Int} (k : Int) (hm : At (Value.int .i64) 0 w v xs) : Calls Try.prog 5 #[v, .int .i64 k] w fun e w' => e = .returned (.bool true) ∧ Below w.heap.size w w' := by
  have hlo := fun w' (hb : Below w.heap.size w w') => lens_of (w := w') (hm.keep hb)
  have HLO := Lib.hid hlo
  clear hlo hm
  go_enter Try.func5, Try.ntmps5
  go_wp2_with fail
  refine (turns_any _).mono ?_
  rintro e w1 ⟨rfl, hb1⟩
  have HB1 := Lib.hid hb1
  go_wp2_with fail
  refine (HLO.out _ hb1).mono ?_
  rintro e w2 ⟨v5, l, rfl, hrow, hb2, hg, hx⟩
  have HB2 := Lib.hid (HB1.out.trans (hb2.mono HB1.out.size))
  have hl4 := hg.1
  obtain ⟨a5, cap5, hv5, _, _, _⟩ := natS_of hrow
  subst hv5
  obtain ⟨n, hn⟩ : ∃ n, n = l.length := ⟨_, rfl⟩
  rw [← hn] at hl4 ⊢
  clear hb1 hb2 hg hx hrow hn
  obtain ⟨i0, hi0, hz0, hz1, hz2⟩ := info_parts info3
  go_wp2_with fail
  go_loopw [6, 24] (fun ov iv wr => ∃ i : Nat, i ≤ n ∧ iv = .int .i64 i ∧ NatRow wr w2.heap.size ov (List.replicate i 1) ∧ Hid (Below w2.heap.size w2 wr)) (fun _ iv _ => n - (intOf iv).toNat)
  case atStart => exact ⟨0, Nat.zero_le _, rfl, World.ownsRow_nil _ _ _ _, Below.refl _ _⟩
  case round =>
    obtain ⟨i, hi, rfl, hO, HBL⟩ := hrel
    by_cases hin : i < n
    · unfold NatRow at hO
      rw [List.length_replicate] at hO
      go_wp2_with (at_builtin; go_loud (refine wpList_append_fresh _ rfl (.tmp 26) (.tmp 27) 22 rfl w2.heap.size 3 i0 (.int .i64 0) 1 8 Try.underlying22 hi0 hz0 hz1 hz2 rfl (by decide) _ _ _ rfl (hO.alloc _) ⟨_, 0, none⟩ 1 1 [.int .i64 1] rfl rfl (cells1_new _ _ _) one1 (by unfold maxLen; omega) (by omega) (by have := HBL.out.size; simp; omega) ?_))
      intro v7 w7 own7 grow7 fresh7
      have hb7 : Below w2.heap.size w2 w7 := (HBL.out.alloc HBL.out.size _).grown grow7 (by have := HBL.out.size; simp; omega) (fun g' hg' => (hO.lt g' hg').1)
      have hO7 : NatRow w7 w2.heap.size v7 (List.replicate (i + 1) 1) := by
        unfold NatRow
        rw [List.length_replicate, show List.replicate (i + 1) 1 = List.replicate i 1 ++ [1] from by rw [List.replicate_succ']]
        simpa [natV] using own7
      have HB7 := Lib.hid hb7
      have HO7 := Lib.hid hO7
      clear own7 grow7 fresh7 hb7 hO7 hO
      go_wp2
      go_roundw
      case rel => exact ⟨i + 1, by omega, by go_num, HO7.out, HB7.out⟩
      case measure => simp [intOf]; omega
    · obtain rfl : i = n := by omega
      obtain ⟨w3, rfl⟩ : ∃ x : World, x = wr := ⟨_, rfl⟩
      have HB3 := Lib.hid (HB2.out.trans (HBL.out.mono HB2.out.size))
      have hns := natS_of hO
      have HNS := Lib.hid hns
      obtain ⟨a6, cap6, hv6, _, _, _⟩ := hns
      rw [List.length_replicate] at hv6
      subst hv6
      clear hO hin hi HBL
      obtain ⟨i1, hi1, hy0, hy1, hy2⟩ := info_parts info35
      go_wp2_with fail
      go_loopw [7, 32] (fun pv iv wr => ∃ j : Nat, j ≤ i ∧ iv = .int .i64 j ∧ Hid (PR wr w3.heap.size pv (progsOne j)) ∧ Hid (Below w3.heap.size w3 wr)) (fun _ iv _ => i - (intOf iv).toNat)
      case atStart => exact ⟨0, Nat.zero_le _, rfl, PR.nil _ _, Below.refl _ _⟩
      case round =>
        obtain ⟨j, hj, rfl, HPR, HBL⟩ := hrel
        by_cases hji : j < i
        · obtain ⟨vals, hown, hvl, hvp⟩ := (HPR.out.keep (Go.Joins.below_alloc1 wr (.cells #[.int .i64 6, .int .i64 0, .int .i64 ((j : Int) + 1)] 38))).keep (Go.Joins.below_alloc1 (wr.alloc (.cells #[.int .i64 6, .int .i64 0, .int .i64 ((j : Int) + 1)] 38)) (.cells #[.slice (some ⟨wr.heap.size, 0, none⟩) 1 1] 35))
          have hnew := (prog_one wr j 38).keep (Go.Joins.below_alloc1 (wr.alloc (.cells #[.int .i64 6, .int .i64 0, .int .i64 ((j : Int) + 1)] 38)) (.cells #[.slice (some ⟨wr.heap.size, 0, none⟩) 1 1] 35)) (Nat.le_refl _)
          have hlt0 : ∀ g, u7.ownBlock = some g → g < wr.heap.size := by
            obtain ⟨_, ho, _⟩ := HPR.out
            exact fun g hg => (ho.lt g hg).2
          rw [progsOne_length] at hown hvl
          have hcn := cells1_new (wr.alloc (.cells #[.int .i64 6, .int .i64 0, .int .i64 ((j : Int) + 1)] 38)) (.slice (some ⟨wr.heap.size, 0, none⟩) 1 1) 35
          rw [show (wr.alloc (.cells #[.int .i64 6, .int .i64 0, .int .i64 ((j : Int) + 1)] 38)).heap.size = wr.heap.size + 1 from by simp] at hcn
          have HVL := Lib.hid hvl
          have HCN := Lib.hid hcn
          clear hcn
          have HVP := Lib.hid hvp
          have HNEW := Lib.hid hnew
          have HLT := Lib.hid hlt0
          clear hvl hvp hnew hlt0
          go_wp2_with (at_builtin; go_loud (refine wpList_append_fresh _ rfl (.tmp 35) (.tmp 40) 34 rfl w3.heap.size 35 i1 (.slice none 0 0) 1 24 Try.underlying34 hi1 hy0 hy1 hy2 rfl (by decide) _ _ _ rfl hown ⟨_, 0, none⟩ 1 1 [.slice (some ⟨wr.heap.size, 0, none⟩) 1 1] rfl rfl HCN.out oneS (by unfold maxLen; omega) (by omega) (by have := HBL.out.size; simp; omega) ?_))
          intro v7 w7 own7 grow7 fresh7
          have hpr7 : PR w7 w3.heap.size v7 (progsOne (j + 1)) := by
            rw [progsOne_succ]
            refine PR.append (by rw [progsOne_length]; exact HVL.out) HVP.out (by rw [progsOne_length]; exact own7) grow7 (by simpa using fresh7) (.inr ⟨wr.heap.size, rfl, HNEW.out, fun e => ?_⟩)
            have := HLT.out _ e
            omega
          have HB7 := Lib.hid (show Below w3.heap.size w3 w7 from ((HBL.out.alloc HBL.out.size _).alloc (by have := HBL.out.size; simp; omega) _).grown grow7 (by have := HBL.out.size; simp; omega) (fun g' hg' => (hown.lt g' hg').1))
          have HP7 := Lib.hid hpr7
          clear own7 grow7 fresh7 hpr7 hown
          go_wp2
          go_roundw
          case rel => exact ⟨j + 1, by omega, by go_num, HP7.out, HB7.out⟩
          case measure => simp [intOf]; omega
        · obtain rfl : j = i := by omega
          obtain ⟨w4, rfl⟩ : ∃ x : World, x = wr := ⟨_, rfl⟩
          have hn4 := HNS.out.keep HBL.out
          have HB4 := Lib.hid (HB3.out.trans (HBL.out.mono HB3.out.size))
          have hcnt := Count_is (good1 hl4) hn4
          obtain ⟨C, hC⟩ : ∃ C, C = countR (List.replicate j 1) := ⟨_, rfl⟩
          have hle := one_le ⟨j, by omega⟩
          have hle1 : C ≤ 24 := by rw [hC]; exact hle.1
          have hle2 : 1 ≤ C := by rw [hC]; exact hle.2
          rw [← hC] at hcnt
          have HCNT := Lib.hid hcnt
          have HCC := Lib.hid hC
          have hc1 : (1 : Int) ≤ C := by omega
          have hc24 : (C : Int) ≤ 24 := by omega
          have HN4 := Lib.hid hn4
          clear hn4 hcnt hC hle HNS
          go_wp2_with fail
          refine HCNT.out.mono ?_
          rintro e w5 ⟨rfl, rfl⟩
          go_wp2_with fail
          refine (within_any k C _ hc1 (by omega)).mono ?_
          rintro e w5 ⟨rfl, rfl⟩
          obtain ⟨z, hz⟩ : ∃ z : Nat, k % C = z := ⟨(k % C).toNat, by have := Int.emod_nonneg k (show (C : Int) ≠ 0 by omega); omega⟩
          have hzC : z < C := by have := Int.emod_lt_of_pos k (show (0 : Int) < C by omega); omega
          rw [hz]
          have hat := at_is (k0 := z) (good1 hl4) (by rw [← HCC.out]; exact hzC) HN4.out
          obtain ⟨hplay, hol, hoj⟩ := one_law hl4 (by rw [← HCC.out]; exact hzC)
          generalize hO : atR (List.replicate j 1) z = O at *
          obtain ⟨o, ho⟩ : ∃ o, o = O.getD 0 0 := ⟨_, rfl⟩
          rw [← ho] at hplay hoj
          have HAT := Lib.hid hat
          have HPLAY := Lib.hid hplay
          have HOL := Lib.hid hol
          have HO := Lib.hid ho
          have HOJ := Lib.hid hoj
          have HOE := Lib.hid hO
          clear hat hplay hol ho hoj hz hzC hO
          go_wp2_with fail
          refine HAT.out.mono ?_
          rintro e w5 ⟨v11, rfl, hord, hb5⟩
          rw [HOE.out] at hord
          have HB5 := Lib.hid (HB4.out.trans (hb5.mono HB4.out.size))
          have HPL := Lib.hid (play_one ((HPR.out.keep hb5).progs) hl4 hord HOL.out HPLAY.out)
          have HO5 := Lib.hid hord
          clear hord hb5
          go_wp2_with fail
          refine HPL.out.mono ?_
          rintro e w6 ⟨⟨v13, v14, rfl, hcs, hhs⟩, hb6⟩
          have HB6 := Lib.hid (HB5.out.trans (hb6.mono HB5.out.size))
          obtain ⟨bc, oc, cc, rfl, hbc, hcell⟩ := u32_one_cell hcs
          have ho6 := HO5.out.keep hb6
          obtain ⟨ah, ch, rfl, _, _, hh⟩ := hhs
          obtain ⟨ao, co, rfl, _, _, hoo⟩ := ho6
          rw [handsOne_length] at hh ⊢
          rw [HOL.out] at hoo ⊢
          have HCE := Lib.hid hcell
          have HBC := Lib.hid hbc
          have HH := Lib.hid hh
          have HOO := Lib.hid hoo
          clear hcs hb6 hbc hcell hh hoo HPL
          go_wp2_with fail
          refine (good_any _ _ [0, 0] _ (by simp) (two0 _ _)).mono ?_
          rintro e w7 ⟨rfl, rfl⟩
          rw [show ([(0 : Int), 0].all (· == 0)) = true from rfl]
          have hb7 := Go.Joins.below_alloc1 w6 (.cells #[.int .i64 0, .int .i64 0] 26)
          have HB7 := Lib.hid (HB6.out.trans (hb7.mono HB6.out.size))
          have hc7 := (hb7.cell (p := ⟨bc, oc, none⟩) HBC.out).trans HCE.out
          have hbc7 := Nat.lt_of_lt_of_le HBC.out hb7.size
          have HB67 := Lib.hid hb7
          clear hb7
          generalize hw7 : w6.alloc (.cells #[.int .i64 0, .int .i64 0] 26) = w7 at *
          clear hw7
          by_cases hj0 : j = 0
          · subst hj0
            have hc0 : w7.cell? ⟨bc, oc, none⟩ = some (.int .u32 0) := hc7
            clear hc7
            go_wp2
            go_ret
            exact ⟨rfl, HB7.out⟩
          · have hj1 : (1 : Int) ≤ j := by omega
            rcases HOO.out with h0 | ⟨bo, oo, rfl, hbo, hoc⟩
            · have := HOL.out; rw [h0] at this; exact absurd this.symm hj0
            rcases HH.out with h0 | ⟨bh, oh, rfl, hbh, hhc⟩
            · have := handsOne_length j o; rw [h0] at this; exact absurd this.symm hj0
            have hoj : o < j := by
              rcases HOJ.out with h | h
              · exact absurd h hj0
              · exact h
            have ho7 := (HB67.out.cell (p := ⟨bo, oo, none⟩) hbo).trans (hoc 0 (by omega))
            rw [← HO.out] at ho7
            rw [if_neg hj0] at hc7
            have hc7' : w7.cell? ⟨bc, oc, none⟩ = some (.int .u32 ((o : Int) + 1)) := hc7
            have hoi : (o : Int) < j := by omega
            have hji : (j : Int) ≤ 4 := by omega
            unfold natV at ho7
            clear hc7 hoc
            have HHC := Lib.hid hhc
            have HBH := Lib.hid hbh
            clear hhc hbh
            go_wp2_with fail
            go_loop [103] (fun iv => ∃ i : Nat, i ≤ j ∧ iv = .int .i64 i) (fun iv => j - (intOf iv).toNat)
            case atStart => exact ⟨0, Nat.zero_le _, rfl⟩
            case round =>
              obtain ⟨i, hi, rfl⟩ := hrel
              by_cases hij : i < j
              · have hhe := (HB67.out.cell (p := ⟨bh, oh + i, none⟩) HBH.out).trans (HHC.out i hij)
                rw [handsOne_get hij] at hhe
                unfold u32V at hhe
                have hiI : (i : Int) < j := by omega
                by_cases hio : i = o
                · rw [if_pos hio] at hhe
                  have hhe' : w7.cell? ⟨bh, oh + i, none⟩ = some (.int .u32 0) := hhe
                  subst hio
                  clear hhe
                  go_wp2
                  go_round
                  case rel => exact ⟨i + 1, by omega, by go_num⟩
                  case measure => simp [intOf]; omega
                · rw [if_neg hio] at hhe
                  have hhe' : w7.cell? ⟨bh, oh + i, none⟩ = some (.int .u32 ((o : Int) + 1)) := hhe
                  have hb1 : ((i : Int) == (o : Int)) = false := by simp; omega
                  have hb2 : ((i : Int) != (o : Int)) = true := by simp; omega
                  clear hhe hio
                  go_wp2
                  go_round
                  case rel => exact ⟨i + 1, by omega, by go_num⟩
                  case measure => simp [intOf]; omega
              · obtain rfl : i = j := by omega
                go_wp2
                go_quiet (fail)
                go_wp2
                go_ret
                exact ⟨by simp, below_drewN HB7.out _⟩
end Go.Proofs.Ytopadiofanaaiaa.TurnLaw
