/- The walk of turn.At. -/
import Derived.Test.YtopadiofanaaiaaTurnAt
namespace Go.Proofs.Ytopadiofanaaiaa.TurnLaw
open Go.RowKit
set_option linter.unusedVariables false

def lenV : Value → Nat | .slice _ n _ => n | _ => 0
theorem row_len {w : World} {base : Nat} {v : Value} {l : List Nat} (h : NatRow w base v l) : lenV v = l.length := by
  rcases h.2 with ⟨rfl, hn⟩ | ⟨g, cap, cur, rfl, _⟩
  · exact hn.symm
  · rfl
theorem dec_set {l : List Nat} {i : Nat} (h : i < l.length) : (dec l i).set i (l.getD i 0) = l := by
  unfold dec
  rw [List.set_set]
  apply List.ext_getElem (by simp)
  intro j h1 h2
  rw [List.getElem_set]
  by_cases e : i = j
  · subst e; simp [List.getD, h]
  · simp [e]
theorem pick_skip {l : List Nat} {n i k : Nat} (hi : i < n) (h0 : l.getD i 0 = 0) : pick l ((List.range n).drop i) k = pick l ((List.range n).drop (i + 1)) k := by
  rw [List.drop_eq_getElem_cons (by simpa using hi), List.getElem_range, pick, if_pos h0]
theorem pick_over {l : List Nat} {n i k : Nat} (hi : i < n) (h0 : l.getD i 0 ≠ 0) (hc : countR (dec l i) ≤ k) : pick l ((List.range n).drop i) k = pick l ((List.range n).drop (i + 1)) (k - countR (dec l i)) := by
  rw [List.drop_eq_getElem_cons (by simpa using hi), List.getElem_range, pick, if_neg h0, if_pos hc]
theorem pick_this {l : List Nat} {n i k : Nat} (hi : i < n) (h0 : l.getD i 0 ≠ 0) (hc : ¬ countR (dec l i) ≤ k) : pick l ((List.range n).drop i) k = some (i, k) := by
  rw [List.drop_eq_getElem_cons (by simpa using hi), List.getElem_range, pick, if_neg h0, if_neg hc]
theorem pick_end {l : List Nat} {n k : Nat} : pick l ((List.range n).drop n) k = none := by
  rw [List.drop_of_length_le (by simp)]; rfl
theorem atF_none {f : Nat} {l : List Nat} {k : Nat} (h : pick l (List.range l.length) k = none) : atF (f + 1) l k = [] := by rw [atF, h]
theorem atF_some {f : Nat} {l : List Nat} {k i k' : Nat} (h : pick l (List.range l.length) k = some (i, k')) : atF (f + 1) l k = i :: atF f (dec l i) k' := by rw [atF, h]
theorem sum_pos {l : List Nat} {i : Nat} (h : l.getD i 0 ≠ 0) : 1 ≤ l.sum := by have := dec_sum h; omega
theorem count_small (l : List Nat) (h : l.sum ≤ 12) : countR l ≤ 8916100448256 := by
  refine Nat.le_trans (cAll_bound l h) ?_
  rw [cAll_all]
  exact Nat.le_trans (Nat.pow_le_pow_right (by decide) h) (by decide)

def AtPost (l : List Nat) (k : Nat) (w : World) (e : Ending) (w' : World) : Prop := ∃ v', e = .returned (.tuple #[v', .int .i64 0]) ∧ NatS w' v' (atR l k) ∧ Below w.heap.size w w'
set_option maxRecDepth 100000 in
set_option maxHeartbeats 4000000 in
theorem at_is {w : World} {v : Value} {l : List Nat} {k0 : Nat} (hg : good4 l) (hk : k0 < countR l) (hm : NatS w v l) : Calls Try.prog 19 #[v, .int .i64 k0] w (AtPost l k0 w) := by
  have HCT := Lib.hid (Count_is hg hm)
  have HCL := Lib.hid (clone_is (Nat.le_trans hg.1 (by decide)) hm)
  have HG := Lib.hid hg
  have hcs := count_small l hg.2
  obtain ⟨a, cap, rfl, _⟩ := hm
  obtain ⟨n, hn⟩ : ∃ n, n = l.length := ⟨_, rfl⟩
  rw [← hn] at HCT HCL ⊢
  have HN := Lib.hid hn
  have hn4 : n ≤ 4 := by rw [hn]; exact hg.1
  generalize hC : countR l = C at *
  have hki : (k0 : Int) < C := by omega
  have hk0 : (k0 : Int) ≤ 8916100448256 := by omega
  have hCi : (C : Int) ≤ 8916100448256 := by omega
  clear hn hg hk hcs hC
  go_enter Try.func19, Try.ntmps19
  go_wp2_with fail
  refine HCT.out.mono ?_
  rintro e w1 ⟨rfl, rfl⟩
  go_wp2_with fail
  refine HCL.out.mono ?_
  rintro e w1 ⟨v8, rfl, hown, hb1⟩
  have HB1 := Lib.hid hb1
  obtain ⟨B, hB⟩ : ∃ B, B = w.heap.size := ⟨_, rfl⟩
  have HBS := Lib.hid hB
  have hsz := hb1.size
  rw [← hB] at hown hsz
  clear hb1 hB
  obtain ⟨i0, hi0, hz0, hz1, hz2⟩ := info_parts info3
  have hv8 : (∃ g cap', v8 = .slice (some ⟨g, 0, none⟩) n cap') ∨ (v8 = .slice none 0 0 ∧ n = 0) := by
    rcases hown.2 with ⟨h, h0⟩ | ⟨g, cap', cur, h, _⟩
    · exact .inr ⟨h, by rw [HN.out]; exact h0⟩
    · exact .inl ⟨g, cap', by rw [HN.out]; exact h⟩
  rcases hv8 with ⟨g, cap', rfl⟩ | ⟨rfl, rfl⟩
  · generalize decide ((k0 : Int) < 0) = q1 at *
    go_wp2_with fail
    have hgB := (hown.lt g rfl).1
    have hown1 : w1.ownsRow B 3 1 (.slice (some ⟨g, 0, none⟩) n cap') n (l.map natV) := by
      have := hown; unfold NatRow at this; rwa [← HN.out] at this
    have HGB := Lib.hid (show w.heap.size ≤ g by rw [← HBS.out]; exact hgB)
    go_loopw [1, 9] (fun kv ov wr => ∃ (f k : Nat) (left out : List Nat), kv = .int .i64 k ∧ (k : Int) ≤ 8916100448256 ∧ Hid (Below w.heap.size w wr) ∧ wr.ownsRow B 3 1 (.slice (some ⟨g, 0, none⟩) n cap') n (left.map natV) ∧ NatRow wr B ov out ∧ Hid (Apart (.slice (some ⟨g, 0, none⟩) n cap') ov) ∧ left.length = n ∧ left.sum < f ∧ out.length + left.sum ≤ 12 ∧ Hid (atR l k0 = out ++ atF f left k)) (fun _ ov _ => 13 - lenV ov)
    case atStart =>
      exact ⟨13, k0, l, [], rfl, hk0, HB1.out, hown1, World.ownsRow_nil _ _ _ _, (apart_nil _).symm, HN.out.symm, Nat.lt_succ_of_le HG.out.2, by simpa using HG.out.2, rfl⟩
    case round =>
      clear hown hown1
      obtain ⟨f, k, left, out, rfl, hk, HBL, hL, hO, HAP, hln, hsf, hos, HAT⟩ := hrel
      have HKK := Lib.hid hk
      obtain ⟨wo, rfl⟩ : ∃ wo : World, wo = wr := ⟨_, rfl⟩
      have HLEN := Lib.hid (row_len hO)
      go_wp2_with fail
      go_loopw [1, 10, 32] (fun kv wv iv wr => ∃ (i k' : Nat), i ≤ n ∧ kv = .int .i64 k' ∧ (k' : Int) ≤ 8916100448256 ∧ wv = .int .i64 (-1) ∧ iv = .int .i64 i ∧ Hid (Below w.heap.size w wr) ∧ wr.ownsRow B 3 1 (.slice (some ⟨g, 0, none⟩) n cap') n (left.map natV) ∧ NatRow wr B u9 out ∧ Hid (pick left (List.range n) k = pick left ((List.range n).drop i) k')) (fun _ _ iv _ => n - (intOf iv).toNat)
      case atStart => exact ⟨0, k, Nat.zero_le _, rfl, HKK.out, rfl, rfl, HBL.out, hL, hO, rfl⟩
      case round =>
        clear hL hO HBL
        obtain ⟨i, k', hi, rfl, hk', rfl, rfl, HBL, hL, hO, HPK⟩ := hrel
        by_cases hin : i < n
        · have hil : i < left.length := by rw [hln]; exact hin
          have hc := hL.cellAt i (by omega)
          have hf := hL.frozenAt i
          rw [List.getElem?_map, List.getElem?_eq_getElem hil] at hc
          have hgd : left[i] = left.getD i 0 := by simp [List.getD, hil]
          rw [hgd] at hc
          obtain ⟨x, hx⟩ : ∃ x, x = left.getD i 0 := ⟨_, rfl⟩
          rw [← hx] at hc
          simp only [Option.map_some, natV] at hc
          have hx12 : x ≤ 12 := by rw [hx]; exact Nat.le_trans (getD_le hil) (by omega)
          have HX := Lib.hid hx
          have hx12' : (x : Int) ≤ 12 := by omega
          by_cases hx0 : x = 0
          · have HSK := Lib.hid (pick_skip (k := k') hin (by rw [← hx]; exact hx0))
            subst hx0
            clear hx hgd
            go_wp2
            go_roundw
            case rel => exact ⟨i + 1, k', by omega, rfl, hk', rfl, by go_num, HBL.out, hL, hO, HPK.out.trans HSK.out⟩
            case measure => simp [intOf]; omega
          · have hx0' : ((x : Int) == 0) = false := by simp; omega
            have hx1 : (1 : Int) ≤ x := by omega
            have hne : left.getD i 0 ≠ 0 := by rw [← hx]; exact hx0
            have hst := hL.stored i (.int .i64 ((x : Int) - 1))
            have hset : (left.map natV).set i (.int .i64 ((x : Int) - 1)) = (dec left i).map natV := by
              rw [dec, List.map_set, ← hx]
              congr 1
              show Value.int .i64 ((x : Int) - 1) = Value.int .i64 ((x - 1 : Nat) : Int)
              congr 1; omega
            rw [hset] at hst
            have hO2 := kept_apart hO hst.2 (v1 := .slice (some ⟨g, 0, none⟩) n cap') (.inl rfl) HAP.out
            have hB2 : Below w.heap.size w (wr.setCell ⟨g, i, none⟩ (.int .i64 ((x : Int) - 1))) := Below.setCell HBL.out HGB.out _
            have hdl : (dec left i).length = n := by rw [dec_length, hln]
            have hsum : (dec left i).sum ≤ 12 := by have := dec_sum hne; omega
            have hS : NatS (wr.setCell ⟨g, i, none⟩ (.int .i64 ((x : Int) - 1))) (.slice (some ⟨g, 0, none⟩) n cap') (dec left i) := at_of_owned (by rw [hdl]; exact hst.1)
            have HCNT := Lib.hid (count_is hsum hS)
            have hcs := count_small _ hsum
            have HOV := Lib.hid (@pick_over left n i k' hin hne)
            have HTH := Lib.hid (@pick_this left n i k' hin hne)
            obtain ⟨c, hcc⟩ : ∃ c, c = countR (dec left i) := ⟨_, rfl⟩
            rw [← hcc] at hcs HCNT HOV HTH
            have hci : (c : Int) ≤ 8916100448256 := by omega
            have HST := Lib.hid hst.1
            have HO2 := Lib.hid hO2.1
            have HB2 := Lib.hid hB2
            clear hst hset hO2 hB2 hdl hsum hS hcs hcc hx hgd hne hx0
            by_cases hck : c ≤ k'
            · have hcki : (c : Int) ≤ k' := by omega
              have hst2 := HST.out.stored i (.int .i64 (x : Int))
              have hback : ((dec left i).map natV).set i (.int .i64 (x : Int)) = left.map natV := by
                have := dec_set hil
                rw [← HX.out] at this
                rw [show (Value.int .i64 (x : Int)) = natV x from rfl, ← List.map_set, this]
              rw [hback] at hst2
              have hO3 := kept_apart HO2.out hst2.2 (v1 := .slice (some ⟨g, 0, none⟩) n cap') (.inl rfl) HAP.out
              have HST2 := Lib.hid hst2.1
              have HO3 := Lib.hid hO3.1
              have HB3 := Lib.hid (Below.setCell HB2.out HGB.out (.int .i64 (x : Int)) (p := ⟨g, i, none⟩))
              clear hst2 hback hO3
              go_wp2_with fail
              refine HCNT.out.mono ?_
              rintro e w3 ⟨rfl, rfl⟩
              go_wp2
              go_roundw
              case rel => exact ⟨i + 1, k' - c, by omega, by go_num, by omega, rfl, by go_num, HB3.out, HST2.out, HO3.out, HPK.out.trans (HOV.out hck)⟩
              case measure => simp [intOf]; omega
            · have hcki : (k' : Int) < c := by omega
              have hsz3 : B ≤ (wr.setCell ⟨g, i, none⟩ (.int .i64 ((x : Int) - 1))).heap.size := by rw [HBS.out]; exact HB2.out.size
              go_wp2_with fail
              refine HCNT.out.mono ?_
              rintro e w3 ⟨rfl, rfl⟩
              have hor := HO2.out
              have hol : out.length ≤ 12 := by omega
              generalize hw3 : wr.setCell ⟨g, i, none⟩ (.int .i64 ((x : Int) - 1)) = w3 at *
              go_wp2_with (at_builtin; go_loud (refine wpList_append_fresh _ rfl (.tmp 65) (.tmp 67) 22 rfl B 3 i0 (.int .i64 0) 1 8 Try.underlying22 hi0 hz0 hz1 hz2 rfl (by decide) _ _ _ rfl (hor.alloc _) ⟨_, 0, none⟩ 1 1 [.int .i64 i] rfl rfl (cells1_new _ _ _) one1 (by unfold maxLen; omega) (by omega) (by simp; omega) ?_))
              intro v7 w7 own7 grow7 fresh7
              have hb7 : Below w.heap.size w w7 := (HB2.out.alloc HB2.out.size _).grown grow7 (by have := HB2.out.size; simp; omega) (fun g' hg' => by have := (hor.lt g' hg').1; have := HBS.out; omega)
              have hO7 : NatRow w7 B v7 (out ++ [i]) := by
                have : w7.ownsRow B 3 1 v7 (out.length + 1) (out.map natV ++ [.int .i64 i]) := by simpa using own7
                unfold NatRow
                simpa [natV] using this
              obtain ⟨hL7, hap7⟩ := kept_apart (HST.out.alloc _) grow7 (fresh7.imp id fun ⟨g, h, e⟩ => ⟨g, by simpa using h, e⟩) (Apart.symm HAP.out)
              have HL7 := Lib.hid hL7
              have HAP7 := Lib.hid (Apart.symm hap7)
              have HB7 := Lib.hid hb7
              have HO7 := Lib.hid hO7
              have HLV := Lib.hid (row_len hO7)
              clear own7 grow7 fresh7 hL7 hap7 hb7 hO7 hor
              go_wp2
              go_roundw
              case rel =>
                have hpk : pick left (List.range left.length) k = some (i, k') := by rw [hln]; exact HPK.out.trans (HTH.out hck)
                have hds := dec_sum (pick_in hpk).2
                obtain ⟨f', rfl⟩ : ∃ f', f = f' + 1 := ⟨f - 1, by omega⟩
                refine ⟨f', k', dec left i, out ++ [i], rfl, hk', HB7.out, HL7.out, HO7.out, HAP7.out, by rw [dec_length, hln], by omega, by simp; omega, ?_⟩
                show atR l k0 = out ++ [i] ++ atF f' (dec left i) k'
                rw [show atR l k0 = out ++ atF (f' + 1) left k from HAT.out, atF_some hpk]; simp
              case measure =>
                have h1 := HLV.out
                have h2 := HLEN.out
                simp at h1
                show 13 - lenV v7 < 13 - lenV u9
                omega
        · obtain rfl : i = n := by omega
          have hpk : pick left (List.range left.length) k = none := by rw [hln]; exact HPK.out.trans pick_end
          obtain ⟨f', rfl⟩ : ∃ f', f = f' + 1 := ⟨f - 1, by omega⟩
          have hfin : NatS wr u9 (atR l k0) := by
            rw [show atR l k0 = out ++ atF (f' + 1) left k from HAT.out, atF_none hpk, List.append_nil]
            exact natS_of hO
          have HFIN := Lib.hid hfin
          clear hfin hpk
          go_wp2
          go_ret2
          exact ⟨_, rfl, HFIN.out, HBL.out⟩
  · have hl0 : l = [] := List.eq_nil_of_length_eq_zero HN.out.symm
    subst hl0
    generalize decide ((k0 : Int) < 0) = q1 at *
    go_wp2_with fail
    refine wp_loop_rounds 1 ?_
    rw [rounds_succ]
    go_wp2
    refine wp_loop_rounds 1 ?_
    rw [rounds_succ]
    go_wp2
    go_ret2
    exact ⟨_, rfl, ⟨none, 0, rfl, Nat.le_refl _, Nat.zero_le _, .inl rfl⟩, HB1.out⟩
end Go.Proofs.Ytopadiofanaaiaa.TurnLaw
