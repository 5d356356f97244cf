/- The walk of ringkeep5.TurnAdds. -/
import Derived.Test.YtopadiofanaaiaaAddHold
namespace Go.Proofs.Ytopadiofanaaiaa.TurnLaw
open Go.RowKit
set_option linter.unusedVariables false

/-- what has been built when i threads are done -/
structure AI (c : Nat) (l : List Nat) (i cnt : Nat) (ps : List (List D)) : Prop where
  len : ps.length = i
  cnt : cnt = (l.take i).sum
  each : ∀ j, j < i → (pAt ps j).length = l.getD j 0
  ok : okPs c ps
  four : ∀ p ∈ ps, ∀ d ∈ p, d.1 = 4
theorem AI.start (c : Nat) (l : List Nat) : AI c l 0 0 [] := ⟨rfl, rfl, fun j hj => absurd hj (Nat.not_lt_zero _), fun i hi => absurd hi (Nat.not_lt_zero _), fun p hp => absurd hp List.not_mem_nil⟩
theorem AI.room {c : Nat} {l : List Nat} {i cnt : Nat} {ps : List (List D)} (a : AI c l i cnt ps) (h : l.sum ≤ 12) (hi : i < l.length) : cnt + l.getD i 0 ≤ 12 := by
  rw [a.cnt]
  have h1 := take_sum_next hi
  have h2 := take_sum_le l (i + 1)
  omega
theorem AI.next {c : Nat} {l : List Nat} {i cnt : Nat} {ps : List (List D)} {p : List D} (a : AI c l i cnt ps) (hi : i < l.length) (hp : p.length = l.getD i 0) (hok : ∀ d ∈ p, okD c d ∧ d.1 = 4) : AI c l (i + 1) (cnt + l.getD i 0) (ps ++ [p]) := by
  refine ⟨by simp [a.len], by rw [a.cnt, take_sum_next hi], fun j hj => ?_, fun j hj m hm => ?_, fun q hq d hd => ?_⟩
  · rcases Nat.lt_or_ge j i with h | h
    · rw [pAt_left (by rw [a.len]; exact h)]; exact a.each j h
    · have hje : j = ps.length := by rw [a.len]; omega
      subst hje
      rw [pAt_last, hp, a.len]
  · rcases Nat.lt_or_ge j ps.length with h | h
    · rw [pAt_left h] at hm ⊢; exact a.ok j h m hm
    · have hje : j = ps.length := by simp at hj; omega
      subst hje
      rw [pAt_last] at hm ⊢
      exact (hok _ (mem_dAt hm)).1
  · rcases List.mem_append.1 hq with h | h
    · exact a.four q h d hd
    · rw [List.mem_singleton] at h
      subst h
      exact (hok d hd).2
theorem fold_length (l : List D) : ∀ cs : List Nat, (l.foldl addTo cs).length = cs.length := by
  induction l with
  | nil => intro cs; rfl
  | cons d t ih => intro cs; rw [List.foldl_cons, ih, addTo_length]
def posB (l : List Nat) : Bool := decide (1 ≤ countR l) && decide (countR l ≤ 63063000)
theorem pos1 : ∀ a : Fin 5, posB [a.val] = true := by decide +kernel
theorem pos2 : ∀ a b : Fin 5, posB [a.val, b.val] = true := by decide +kernel
theorem pos3 : ∀ a b c : Fin 5, posB [a.val, b.val, c.val] = true := by decide +kernel
theorem pos4 : ∀ a b c d : Fin 5, posB [a.val, b.val, c.val, d.val] = true := by decide +kernel
theorem count_pos {l : List Nat} (h : small l) : 1 ≤ countR l ∧ countR l ≤ 63063000 := by
  have hb : posB l = true := by
    have f : ∀ x ∈ l, x < 5 := fun x hm => Nat.lt_succ_of_le (h.2 x hm)
    match l, h.1, f with
    | [], _, _ => decide +kernel
    | [a], _, f => exact pos1 ⟨a, f a (by simp)⟩
    | [a, b], _, f => exact pos2 ⟨a, f a (by simp)⟩ ⟨b, f b (by simp)⟩
    | [a, b, c], _, f => exact pos3 ⟨a, f a (by simp)⟩ ⟨b, f b (by simp)⟩ ⟨c, f c (by simp)⟩
    | [a, b, c, d], _, f => exact pos4 ⟨a, f a (by simp)⟩ ⟨b, f b (by simp)⟩ ⟨c, f c (by simp)⟩ ⟨d, f d (by simp)⟩
    | _ :: _ :: _ :: _ :: _ :: _, h, _ => simp at h
  unfold posB at hb
  simpa using hb
theorem mod_big (b : Int) (h0 : 0 ≤ b) (h : b < 1048576) : b % 4294967296 = b := by omega
set_option maxRecDepth 100000 in
set_option maxHeartbeats 1000000 in
theorem turnadds_any {w : World} {v0 v1 v2 : Value} {us xs bys : List Int} (k : Int) (hc : At (Value.int .u32) 0 w v0 us) (hcw : ∀ x ∈ us, (Lit.int .u32 x).wf = true) (hm : At (Value.int .i64) 0 w v1 xs) (hb : At (Value.int .i64) 0 w v2 bys) : Calls Try.prog 4 #[v0, v1, v2, .int .i64 k] w fun e w' => e = .returned (.bool true) ∧ Below w.heap.size w w' := by
  have hlo := fun w' (hb : Below w.heap.size w w') => lens_of (w := w') (hm.keep hb)
  have HLO := Lib.hid hlo
  clear hlo hm
  obtain ⟨ac, capc, rfl, hcl, hcm, hcc⟩ := hc
  obtain ⟨ab, capb, rfl, hbl, hbm, hbb⟩ := hb
  obtain ⟨n0, hn0⟩ : ∃ n, n = us.length := ⟨_, rfl⟩
  obtain ⟨nb, hnb⟩ : ∃ n, n = bys.length := ⟨_, rfl⟩
  rw [← hn0] at hcl ⊢
  rw [← hnb] at hbl ⊢
  have hpre := fun (c : Nat) (h : c ≤ us.length) => u32_prefix (c := c) (⟨ac, capc, rfl, by rw [← hn0]; exact hcl, hcm, hcc⟩ : At (Value.int .u32) 0 w (.slice ac us.length capc) us) hcw h
  rw [← hn0] at hpre
  have HPRE := Lib.hid hpre
  have HBB := Lib.hid hbb
  have HNB := Lib.hid hnb
  unfold maxLen at hcm hbm
  have HNB63 := Lib.hid (show (nb : Int) ≤ 9223372036854775807 by omega)
  clear hpre hn0 hnb hbb hcc hcw hbm
  rcases (show ((n0 : Int) < 4 ∧ ¬ (4 : Int) < n0 ∧ (n0 : Int) ≤ 4) ∨ (n0 = 4) ∨ ((4 : Int) < n0 ∧ ¬ (n0 : Int) < 4 ∧ (4 : Int) ≤ n0) by omega) with ⟨h1, h2, h3⟩ | rfl | ⟨h1, h2, h3⟩
  · go_enter Try.func4, Try.ntmps4
    go_wp2_with fail
    refine (turns_any _).mono ?_
    rintro e w1 ⟨rfl, hb1⟩
    obtain ⟨cs, hcl', hcs, hcv⟩ := HPRE.out n0 (by omega)
    have HCS := Lib.hid (hcs.keep hb1)
    have HCV := Lib.hid hcv
    have HCL := Lib.hid hcl'
    have HB1 := Lib.hid hb1
    have hcapc : (n0 : Int) ≤ capc := by omega
    clear hcs hcv hcl' hb1
    by_cases hz : n0 = 0
    · subst hz
      go_wp2
      go_ret
      exact ⟨rfl, HB1.out⟩
    · have hz0 : ((n0 : Int) == 0) = false := by simp; omega
      have hc4 : n0 ≤ 4 := by omega
      go_wp2_with fail
      refine (HLO.out _ HB1.out).mono ?_
      rintro e w2 ⟨v9, l, rfl, hrow, hb2, hg, hx⟩
      have HB2 := Lib.hid (HB1.out.trans (hb2.mono HB1.out.size))
      have HCS2 := Lib.hid (HCS.out.keep hb2)
      have hl4 := hg.1
      have HNS := Lib.hid (natS_of hrow)
      have HG := Lib.hid hg
      have HX := Lib.hid hx
      obtain ⟨a9, cap9, hv9, _, _, hl9⟩ := natS_of hrow
      subst hv9
      obtain ⟨n, hn⟩ : ∃ n, n = l.length := ⟨_, rfl⟩
      rw [← hn] at hl4 HNS ⊢
      have HN := Lib.hid hn
      have HL9 := Lib.hid hl9
      have hclo := cloneU_is (by rw [HCL.out]; omega) HCS2.out
      have HCLO := Lib.hid hclo
      clear hg hx hrow hb2 hn hl9 hclo
      go_wp2_with fail
      refine HCLO.out.mono ?_
      rintro e w3 ⟨v10, rfl, hwant, hb3⟩
      rcases hwant.2 with ⟨_, hn0⟩ | ⟨gW, capW, cur, rfl, _⟩
      · have := HCL.out; omega
      rw [HCL.out]
      have hTA : TA w2.heap.size w2 w3 (.slice (some ⟨gW, 0, none⟩) n0 capW) (.slice none 0 0) (.slice none 0 0) (([] : List D).foldl addTo cs) [] [] :=
        ⟨hb3, hb3.size, by have := hwant; unfold U32Row at this ⊢; rw [show (([] : List D).foldl addTo cs) = cs from rfl]; rw [HCL.out] at this ⊢; exact this, World.ownsRow_nil _ _ _ _, ⟨[], World.ownsRow_nil _ _ _ _, rfl, fun j hj => absurd hj (Nat.not_lt_zero _)⟩, (apart_nil _).symm, (apart_nil _).symm, apart_nil _⟩
      have HT := Lib.hid hTA
      clear hTA hwant hb3
      obtain ⟨i1, hi1, hy0, hy1, hy2⟩ := info_parts info35
      obtain ⟨i2, hi2, hx0, hx1, hx2⟩ := info_parts info38
      go_wp2_with fail
      go_loopw [11, 12, 41] (fun pv av iv wr => ∃ (i cnt : Nat) (ps : List (List D)), i ≤ n ∧ iv = .int .i64 i ∧ av = .int .i64 cnt ∧ Hid (TA w2.heap.size w2 wr (.slice (some ⟨gW, 0, none⟩) n0 capW) pv (.slice none 0 0) (ps.flatten.foldl addTo cs) ps []) ∧ Hid (AI n0 l i cnt ps)) (fun _ _ iv _ => n - (intOf iv).toNat)
      case atStart => exact ⟨0, 0, [], Nat.zero_le _, rfl, rfl, HT.out, AI.start _ _⟩
      case round =>
        clear HT
        obtain ⟨i, cnt, ps, hi, rfl, rfl, HT, HA⟩ := hrel
        by_cases hin : i < n
        · have hil : i < l.length := by rw [← HN.out]; exact hin
          rcases HL9.out with h0 | ⟨b9, o9, rfl, hb9, hc9⟩
          · rw [h0] at hil; simp at hil
          have g9 := (HT.out.bel.cell (p := ⟨b9, o9 + i, none⟩) hb9).trans (hc9 i hil)
          obtain ⟨x, hx⟩ : ∃ x, x = l.getD i 0 := ⟨_, rfl⟩
          rw [← hx] at g9
          have hx4 : x ≤ 4 := by rw [hx]; exact HX.out _ (by simp [List.getD, hil])
          have hcx : cnt + x ≤ 12 := by rw [hx]; exact HA.out.room HG.out.2 hil
          have HXE := Lib.hid hx
          have hxi : (x : Int) ≤ 4 := by omega
          unfold natV at g9
          clear hx hc9
          have HX4 := Lib.hid hx4
          have hx8 : ∀ y, y ≤ x → cnt + y ≤ 12 := by intro y hy; omega
          have HX8 := Lib.hid hx8
          clear hx4 hcx hx8
          go_wp2_with fail
          go_loopw [12, 15, 46] (fun av pv jv wr => ∃ (j : Nat) (p : List D), j ≤ x ∧ jv = .int .i64 j ∧ av = .int .i64 ((cnt + j : Nat) : Int) ∧ Hid (TA w2.heap.size w2 wr (.slice (some ⟨gW, 0, none⟩) n0 capW) u11 pv ((ps.flatten ++ p).foldl addTo cs) ps p) ∧ Hid (p.length = j) ∧ Hid (∀ d ∈ p, okD n0 d ∧ d.1 = 4)) (fun _ _ jv _ => x - (intOf jv).toNat)
          case atStart => exact ⟨0, [], Nat.zero_le _, rfl, rfl, by rw [List.append_nil]; exact HT.out, rfl, fun d hd => absurd hd List.not_mem_nil⟩
          case round =>
            clear HT g9
            obtain ⟨j, p, hj, rfl, rfl, HT, HPL, HOD⟩ := hrel
            by_cases hjx : j < x
            · have ha12 := HX8.out j hj
              obtain ⟨a, ha⟩ : ∃ a, a = cnt + j := ⟨_, rfl⟩
              rw [← ha] at ha12 ⊢
              have HAE := Lib.hid ha
              have hai : (a : Int) ≤ 12 := by omega
              obtain ⟨z, hz⟩ : ∃ z : Nat, ((a : Int) + 1) % (n0 : Int) = z := ⟨(((a : Int) + 1) % (n0 : Int)).toNat, by have := Int.emod_nonneg ((a : Int) + 1) (show ((n0 : Int) : Int) ≠ 0 by omega); omega⟩
              have hzc : (z : Int) < (n0 : Int) := by have := Int.emod_lt_of_pos ((a : Int) + 1) (show (0 : Int) < (n0 : Int) by omega); omega
              have hwl : ((ps.flatten ++ p).foldl addTo cs).length = n0 := by rw [fold_length]; exact HCL.out
              have HWL := Lib.hid hwl
              clear ha hwl ha12
              by_cases hab : a < nb
              · rcases HBB.out with h0 | ⟨bb, ob, rfl, hbb, hbc⟩
                · have := HNB.out; rw [h0] at this; simp at this; omega
                have gb := ((HB2.out.trans (HT.out.bel.mono HB2.out.size)).cell (p := ⟨bb, ob + a, none⟩) hbb).trans (hbc a (by rw [← HNB.out]; exact hab))
                obtain ⟨y, hy⟩ : ∃ y, y = bys.getD a 0 := ⟨_, rfl⟩
                rw [← hy] at gb
                obtain ⟨b, hb⟩ : ∃ b : Nat, y % 1048576 = b := ⟨(y % 1048576).toNat, by omega⟩
                have hbi : (b : Int) ≤ 1048575 := by omega
                have HB := Lib.hid hb
                have hbn := HNB63.out
                clear hy hb hbc
                go_wp2_with fail
                refine (within_any y 1048576 _ (by decide) (by decide)).mono ?_
                rintro e w5 ⟨rfl, rfl⟩
                rw [HB.out]
                clear gb
                have hPo := HT.out.P.alloc (.cells #[.int .i64 4, .int .i64 z, .int .i64 (b : Int)] 38)
                rw [HPL.out] at hPo
                have HPO := Lib.hid hPo
                clear hPo
                go_wp2_with (at_builtin; go_loud (refine wpList_append_fresh _ rfl (.tmp 63) (.tmp 67) 35 rfl w2.heap.size 38 i2 (.agg #[.int .i64 0, .int .i64 0, .int .i64 0]) 3 24 Try.underlying35 hi2 hx0 hx1 hx2 rfl (by decide) _ _ _ rfl HPO.out ⟨_, 0, none⟩ 1 1 [.int .i64 4, .int .i64 z, .int .i64 (b : Int)] rfl rfl (cells3_new _ _ _ _ _) one3 (by unfold maxLen; omega) (by omega) (by have := HT.out.size; simp; omega) ?_))
                intro v7 w7 own7 grow7 fresh7
                have hT7 := (HT.out.alloc (.cells #[.int .i64 4, .int .i64 z, .int .i64 (b : Int)] 38)).appP (d := (4, z, b)) (by rw [HPL.out]; exact own7) grow7 (by simpa using fresh7)
                have gw := hT7.cellW HWL.out (i := z) (by omega)
                have fw := hT7.frozenW HWL.out z
                have hTS := fun q => hT7.setW' HWL.out z q
                have HT7 := Lib.hid hTS
                have HAD : Hid ((ps.flatten ++ (p ++ [(4, z, b)])).foldl addTo cs = ((ps.flatten ++ p).foldl addTo cs).set z ((((ps.flatten ++ p).foldl addTo cs).getD z 0 + b) % 4294967296)) := by
                  show _ = _
                  rw [← List.append_assoc, List.foldl_append]
                  rfl
                obtain ⟨q, hq⟩ : ∃ q, q = ((ps.flatten ++ p).foldl addTo cs).getD z 0 := ⟨_, rfl⟩
                rw [← hq] at gw HAD
                clear own7 grow7 fresh7 hT7 hTS hq
                go_wp2
                go_roundw
                case rel =>
                  refine ⟨j + 1, p ++ [(4, z, b)], by omega, by go_num, by rw [HAE.out]; go_num, ?_, by have := HPL.out; simp; exact this, fun d hd => ?_⟩
                  · have h7 := HT7.out ((q + b) % 4294967296)
                    rw [HAD.out]
                    exact h7
                  · rcases List.mem_append.1 hd with h | h
                    · exact HOD.out d h
                    · rw [List.mem_singleton] at h
                      subst h
                      exact ⟨⟨by show 1 ≤ 4; decide, by show 4 ≤ 6; decide, by show z < n0; omega, by show b ≤ 1048576; omega⟩, rfl⟩
                case measure => simp [intOf]; omega
              · have hna : (nb : Int) ≤ a := by omega
                have hPo := HT.out.P.alloc (.cells #[.int .i64 4, .int .i64 z, .int .i64 0] 38)
                rw [HPL.out] at hPo
                have HPO := Lib.hid hPo
                clear hPo
                go_wp2_with (at_builtin; go_loud (refine wpList_append_fresh _ rfl (.tmp 63) (.tmp 67) 35 rfl w2.heap.size 38 i2 (.agg #[.int .i64 0, .int .i64 0, .int .i64 0]) 3 24 Try.underlying35 hi2 hx0 hx1 hx2 rfl (by decide) _ _ _ rfl HPO.out ⟨_, 0, none⟩ 1 1 [.int .i64 4, .int .i64 z, .int .i64 0] rfl rfl (cells3_new _ _ _ _ _) one3 (by unfold maxLen; omega) (by omega) (by have := HT.out.size; simp; omega) ?_))
                intro v7 w7 own7 grow7 fresh7
                have hT7 := (HT.out.alloc (.cells #[.int .i64 4, .int .i64 z, .int .i64 0] 38)).appP (d := (4, z, 0)) (by rw [HPL.out]; exact own7) grow7 (by simpa using fresh7)
                have gw := hT7.cellW HWL.out (i := z) (by omega)
                have fw := hT7.frozenW HWL.out z
                have hTS := fun q => hT7.setW' HWL.out z q
                have HT7 := Lib.hid hTS
                have HAD : Hid ((ps.flatten ++ (p ++ [(4, z, 0)])).foldl addTo cs = ((ps.flatten ++ p).foldl addTo cs).set z ((((ps.flatten ++ p).foldl addTo cs).getD z 0 + 0) % 4294967296)) := by
                  show _ = _
                  rw [← List.append_assoc, List.foldl_append]
                  rfl
                obtain ⟨q, hq⟩ : ∃ q, q = ((ps.flatten ++ p).foldl addTo cs).getD z 0 := ⟨_, rfl⟩
                rw [← hq] at gw HAD
                clear own7 grow7 fresh7 hT7 hTS hq
                go_wp2
                go_roundw
                case rel =>
                  refine ⟨j + 1, p ++ [(4, z, 0)], by omega, by go_num, by rw [HAE.out]; go_num, ?_, by have := HPL.out; simp; exact this, fun d hd => ?_⟩
                  · have h7 := HT7.out ((q + 0) % 4294967296)
                    rw [HAD.out]
                    exact h7
                  · rcases List.mem_append.1 hd with h | h
                    · exact HOD.out d h
                    · rw [List.mem_singleton] at h
                      subst h
                      exact ⟨⟨by show 1 ≤ 4; decide, by show 4 ≤ 6; decide, by show z < n0; omega, by show 0 ≤ 1048576; omega⟩, rfl⟩
                case measure => simp [intOf]; omega
            · obtain rfl : j = x := by omega
              obtain ⟨pa, pc, hv15⟩ : ∃ pa pc, u15 = .slice pa j pc := by
                rcases HT.out.P.2 with ⟨h, h0⟩ | ⟨g, cap, cur, h, _⟩
                · exact ⟨none, 0, by rw [h, ← HPL.out, h0]⟩
                · exact ⟨_, cap, by rw [h, HPL.out]⟩
              subst hv15
              have hpl := HPL.out
              subst hpl
              obtain ⟨vals, hown, hX⟩ := (HT.out.alloc (.cells #[.slice pa p.length pc] 35)).R
              have HXV := Lib.hid hX
              have hpsl := HA.out.len
              clear hX
              go_wp2_with (at_builtin; go_loud (refine wpList_append_fresh _ rfl (.tmp 78) (.tmp 80) 34 rfl w2.heap.size 35 i1 (.slice none 0 0) 1 24 Try.underlying34 hi1 hy0 hy1 hy2 rfl (by decide) _ _ _ rfl hown ⟨_, 0, none⟩ 1 1 [.slice pa p.length pc] rfl rfl (cells1_new _ _ _) oneS (by unfold maxLen; omega) (by omega) (by have := HT.out.size; simp; omega) ?_))
              intro v7 w7 own7 grow7 fresh7
              have HT7 := Lib.hid ((HT.out.alloc (.cells #[.slice pa p.length pc] 35)).appR HXV.out (by rw [hpsl]; exact own7) grow7 (by simpa using fresh7))
              have HA7 := Lib.hid (HA.out.next hil HXE.out HOD.out)
              rw [← HXE.out] at HA7
              clear own7 grow7 fresh7 hown hpsl
              go_wp2
              go_roundw
              case rel =>
                refine ⟨i + 1, _, ps ++ [p], by omega, by go_num, rfl, ?_, HA7.out⟩
                have h7 := HT7.out
                rw [show (ps ++ [p]).flatten = ps.flatten ++ p from by simp]
                exact h7
              case measure => simp [intOf]; omega
        · obtain rfl : i = n := by omega
          obtain ⟨w4, rfl⟩ : ∃ x : World, x = wr := ⟨_, rfl⟩
          have hpos := count_pos ⟨HG.out.1, HX.out⟩
          have hns := HNS.out.keep HT.out.bel
          have hcnt := Count_is HG.out hns
          obtain ⟨C, hC⟩ : ∃ C, C = countR l := ⟨_, rfl⟩
          rw [← hC] at hcnt hpos
          have HCE := Lib.hid hC
          have HCNT := Lib.hid hcnt
          have HNS4 := Lib.hid hns
          have HB4 := Lib.hid (HB2.out.trans (HT.out.bel.mono HB2.out.size))
          have hcs4 := HCS2.out.keep HT.out.bel
          have hwr4 := u32S_of HT.out.W
          have hpr4 := HT.out.progs
          obtain ⟨W, hW⟩ : ∃ W, W = ps.flatten.foldl addTo cs := ⟨_, rfl⟩
          have HWL : Hid (W.length = n0) := by show _ = _; rw [hW, fold_length]; exact HCL.out
          rw [← hW] at hwr4
          have HWE := Lib.hid hW
          have HCS4 := Lib.hid hcs4
          have HWR4 := Lib.hid hwr4
          have HPR4 := Lib.hid hpr4
          have hc1 : (1 : Int) ≤ C := by omega
          have HC2 := Lib.hid hpos.2
          clear hC hcnt hns hcs4 hwr4 hpr4 hW hpos
          go_wp2_with fail
          refine HCNT.out.mono ?_
          rintro e w5 ⟨rfl, rfl⟩
          go_wp2_with fail
          refine (within_any k C _ hc1 (by have := HC2.out; omega)).mono ?_
          rintro e w5 ⟨rfl, rfl⟩
          obtain ⟨z, hz⟩ : ∃ z : Nat, k % C = z := ⟨(k % C).toNat, by have := Int.emod_nonneg k (show (C : Int) ≠ 0 by omega); omega⟩
          have hzC : z < C := by have := Int.emod_lt_of_pos k (show (0 : Int) < C by omega); omega
          rw [hz]
          have hzl : z < countR l := by rw [← HCE.out]; exact hzC
          have hat := at_is (k0 := z) HG.out hzl HNS4.out
          obtain ⟨hs', hplay⟩ := adds_law (ps := ps) cs ⟨HG.out.1, HX.out⟩ HG.out.2 hzl (by rw [HA.out.len, HN.out]) (by rw [← HN.out]; exact HA.out.each) HA.out.four
          have hol := at_length ⟨HG.out.1, HX.out⟩ HG.out.2 hzl 13 (by have := HG.out.2; omega)
          rw [← HWE.out] at hplay
          have HAT := Lib.hid hat
          have HPLAY := Lib.hid hplay
          have HOL := Lib.hid (show (atR l z).length ≤ 12 by rw [atR, hol]; exact HG.out.2)
          clear hat hplay hol hz hzC hzl
          go_wp2_with fail
          refine HAT.out.mono ?_
          rintro e w5 ⟨v20, rfl, hord, hb5⟩
          have hpl := play_is (HCS4.out.keep hb5) (by rw [HCL.out]; omega) (by intro h; have := HCL.out; rw [h] at this; simp at this <;> omega) HCV.out (HPR4.out.keep hb5 (Nat.le_refl _)) (by rw [HA.out.len]; exact hl4) (by intro j hj; rw [HA.out.len] at hj; rw [HA.out.each j hj]; exact Nat.le_trans (getD_le (by rw [← HN.out]; exact hj)) HG.out.2) (by rw [HCL.out]; exact HA.out.ok) hord HOL.out HPLAY.out
          have HPLC := Lib.hid hpl
          have HB5 := Lib.hid (HB4.out.trans (hb5.mono HB4.out.size))
          have HWR5 := Lib.hid (HWR4.out.keep hb5)
          clear hord hb5 hpl
          go_wp2_with fail
          refine HPLC.out.mono ?_
          rintro e w6 ⟨v22, v23, rfl, hgot, _, hb6⟩
          have hb7 := (HB5.out.trans (hb6.mono HB5.out.size)).alloc (by have := (HB5.out.trans (hb6.mono HB5.out.size)).size; exact this) (.cells #[.int .i64 0, .int .i64 0] 26)
          have hw7 := (HWR5.out.keep hb6).keep (Go.Joins.below_alloc1 w6 (.cells #[.int .i64 0, .int .i64 0] 26))
          have hg7 := hgot.keep (Go.Joins.below_alloc1 w6 (.cells #[.int .i64 0, .int .i64 0] 26))
          have HB7 := Lib.hid hb7
          have HEQ := Lib.hid (equalU_is hg7 hw7)
          clear hb7 hw7 hg7 hgot hb6
          go_wp2_with fail
          refine (good_any _ _ [0, 0] _ (by simp) (two0 _ _)).mono ?_
          rintro e w7 ⟨rfl, rfl⟩
          rw [show ([(0 : Int), 0].all (· == 0)) = true from rfl]
          generalize w6.alloc (.cells #[.int .i64 0, .int .i64 0] 26) = w7 at *
          go_wp2_with fail
          refine HEQ.out.mono ?_
          rintro e w8 ⟨rfl, hb8⟩
          have HB8 := Lib.hid (HB7.out.trans (hb8.mono HB7.out.size))
          clear hb8
          go_wp2
          go_ret
          exact ⟨rfl, HB8.out⟩
  · go_enter Try.func4, Try.ntmps4
    go_wp2_with fail
    refine (turns_any _).mono ?_
    rintro e w1 ⟨rfl, hb1⟩
    obtain ⟨cs, hcl', hcs, hcv⟩ := HPRE.out 4 (by omega)
    have HCS := Lib.hid (hcs.keep hb1)
    have HCV := Lib.hid hcv
    have HCL := Lib.hid hcl'
    have HB1 := Lib.hid hb1
    have hcapc : (4 : Int) ≤ capc := by omega
    clear hcs hcv hcl' hb1
    have hc4 : (4 : Nat) ≤ 4 := Nat.le_refl _
    go_wp2_with fail
    refine (HLO.out _ HB1.out).mono ?_
    rintro e w2 ⟨v9, l, rfl, hrow, hb2, hg, hx⟩
    have HB2 := Lib.hid (HB1.out.trans (hb2.mono HB1.out.size))
    have HCS2 := Lib.hid (HCS.out.keep hb2)
    have hl4 := hg.1
    have HNS := Lib.hid (natS_of hrow)
    have HG := Lib.hid hg
    have HX := Lib.hid hx
    obtain ⟨a9, cap9, hv9, _, _, hl9⟩ := natS_of hrow
    subst hv9
    obtain ⟨n, hn⟩ : ∃ n, n = l.length := ⟨_, rfl⟩
    rw [← hn] at hl4 HNS ⊢
    have HN := Lib.hid hn
    have HL9 := Lib.hid hl9
    have hclo := cloneU_is (by rw [HCL.out]; omega) HCS2.out
    have HCLO := Lib.hid hclo
    clear hg hx hrow hb2 hn hl9 hclo
    go_wp2_with fail
    refine HCLO.out.mono ?_
    rintro e w3 ⟨v10, rfl, hwant, hb3⟩
    rcases hwant.2 with ⟨_, hn0⟩ | ⟨gW, capW, cur, rfl, _⟩
    · have := HCL.out; omega
    rw [HCL.out]
    have hTA : TA w2.heap.size w2 w3 (.slice (some ⟨gW, 0, none⟩) 4 capW) (.slice none 0 0) (.slice none 0 0) (([] : List D).foldl addTo cs) [] [] :=
      ⟨hb3, hb3.size, by have := hwant; unfold U32Row at this ⊢; rw [show (([] : List D).foldl addTo cs) = cs from rfl]; rw [HCL.out] at this ⊢; exact this, World.ownsRow_nil _ _ _ _, ⟨[], World.ownsRow_nil _ _ _ _, rfl, fun j hj => absurd hj (Nat.not_lt_zero _)⟩, (apart_nil _).symm, (apart_nil _).symm, apart_nil _⟩
    have HT := Lib.hid hTA
    clear hTA hwant hb3
    obtain ⟨i1, hi1, hy0, hy1, hy2⟩ := info_parts info35
    obtain ⟨i2, hi2, hx0, hx1, hx2⟩ := info_parts info38
    go_wp2_with fail
    go_loopw [11, 12, 41] (fun pv av iv wr => ∃ (i cnt : Nat) (ps : List (List D)), i ≤ n ∧ iv = .int .i64 i ∧ av = .int .i64 cnt ∧ Hid (TA w2.heap.size w2 wr (.slice (some ⟨gW, 0, none⟩) 4 capW) pv (.slice none 0 0) (ps.flatten.foldl addTo cs) ps []) ∧ Hid (AI 4 l i cnt ps)) (fun _ _ iv _ => n - (intOf iv).toNat)
    case atStart => exact ⟨0, 0, [], Nat.zero_le _, rfl, rfl, HT.out, AI.start _ _⟩
    case round =>
      clear HT
      obtain ⟨i, cnt, ps, hi, rfl, rfl, HT, HA⟩ := hrel
      by_cases hin : i < n
      · have hil : i < l.length := by rw [← HN.out]; exact hin
        rcases HL9.out with h0 | ⟨b9, o9, rfl, hb9, hc9⟩
        · rw [h0] at hil; simp at hil
        have g9 := (HT.out.bel.cell (p := ⟨b9, o9 + i, none⟩) hb9).trans (hc9 i hil)
        obtain ⟨x, hx⟩ : ∃ x, x = l.getD i 0 := ⟨_, rfl⟩
        rw [← hx] at g9
        have hx4 : x ≤ 4 := by rw [hx]; exact HX.out _ (by simp [List.getD, hil])
        have hcx : cnt + x ≤ 12 := by rw [hx]; exact HA.out.room HG.out.2 hil
        have HXE := Lib.hid hx
        have hxi : (x : Int) ≤ 4 := by omega
        unfold natV at g9
        clear hx hc9
        have HX4 := Lib.hid hx4
        have hx8 : ∀ y, y ≤ x → cnt + y ≤ 12 := by intro y hy; omega
        have HX8 := Lib.hid hx8
        clear hx4 hcx hx8
        go_wp2_with fail
        go_loopw [12, 15, 46] (fun av pv jv wr => ∃ (j : Nat) (p : List D), j ≤ x ∧ jv = .int .i64 j ∧ av = .int .i64 ((cnt + j : Nat) : Int) ∧ Hid (TA w2.heap.size w2 wr (.slice (some ⟨gW, 0, none⟩) 4 capW) u11 pv ((ps.flatten ++ p).foldl addTo cs) ps p) ∧ Hid (p.length = j) ∧ Hid (∀ d ∈ p, okD 4 d ∧ d.1 = 4)) (fun _ _ jv _ => x - (intOf jv).toNat)
        case atStart => exact ⟨0, [], Nat.zero_le _, rfl, rfl, by rw [List.append_nil]; exact HT.out, rfl, fun d hd => absurd hd List.not_mem_nil⟩
        case round =>
          clear HT g9
          obtain ⟨j, p, hj, rfl, rfl, HT, HPL, HOD⟩ := hrel
          by_cases hjx : j < x
          · have ha12 := HX8.out j hj
            obtain ⟨a, ha⟩ : ∃ a, a = cnt + j := ⟨_, rfl⟩
            rw [← ha] at ha12 ⊢
            have HAE := Lib.hid ha
            have hai : (a : Int) ≤ 12 := by omega
            obtain ⟨z, hz⟩ : ∃ z : Nat, ((a : Int) + 1) % (4 : Int) = z := ⟨(((a : Int) + 1) % (4 : Int)).toNat, by have := Int.emod_nonneg ((a : Int) + 1) (show ((4 : Int) : Int) ≠ 0 by omega); omega⟩
            have hzc : (z : Int) < (4 : Int) := by have := Int.emod_lt_of_pos ((a : Int) + 1) (show (0 : Int) < (4 : Int) by omega); omega
            have hwl : ((ps.flatten ++ p).foldl addTo cs).length = 4 := by rw [fold_length]; exact HCL.out
            have HWL := Lib.hid hwl
            clear ha hwl ha12
            by_cases hab : a < nb
            · rcases HBB.out with h0 | ⟨bb, ob, rfl, hbb, hbc⟩
              · have := HNB.out; rw [h0] at this; simp at this; omega
              have gb := ((HB2.out.trans (HT.out.bel.mono HB2.out.size)).cell (p := ⟨bb, ob + a, none⟩) hbb).trans (hbc a (by rw [← HNB.out]; exact hab))
              obtain ⟨y, hy⟩ : ∃ y, y = bys.getD a 0 := ⟨_, rfl⟩
              rw [← hy] at gb
              obtain ⟨b, hb⟩ : ∃ b : Nat, y % 1048576 = b := ⟨(y % 1048576).toNat, by omega⟩
              have hbi : (b : Int) ≤ 1048575 := by omega
              have HB := Lib.hid hb
              have hbn := HNB63.out
              clear hy hb hbc
              go_wp2_with fail
              refine (within_any y 1048576 _ (by decide) (by decide)).mono ?_
              rintro e w5 ⟨rfl, rfl⟩
              rw [HB.out]
              clear gb
              have hPo := HT.out.P.alloc (.cells #[.int .i64 4, .int .i64 z, .int .i64 (b : Int)] 38)
              rw [HPL.out] at hPo
              have HPO := Lib.hid hPo
              clear hPo
              go_wp2_with (at_builtin; go_loud (refine wpList_append_fresh _ rfl (.tmp 63) (.tmp 67) 35 rfl w2.heap.size 38 i2 (.agg #[.int .i64 0, .int .i64 0, .int .i64 0]) 3 24 Try.underlying35 hi2 hx0 hx1 hx2 rfl (by decide) _ _ _ rfl HPO.out ⟨_, 0, none⟩ 1 1 [.int .i64 4, .int .i64 z, .int .i64 (b : Int)] rfl rfl (cells3_new _ _ _ _ _) one3 (by unfold maxLen; omega) (by omega) (by have := HT.out.size; simp; omega) ?_))
              intro v7 w7 own7 grow7 fresh7
              have hT7 := (HT.out.alloc (.cells #[.int .i64 4, .int .i64 z, .int .i64 (b : Int)] 38)).appP (d := (4, z, b)) (by rw [HPL.out]; exact own7) grow7 (by simpa using fresh7)
              have gw := hT7.cellW HWL.out (i := z) (by omega)
              have fw := hT7.frozenW HWL.out z
              have hTS := fun q => hT7.setW' HWL.out z q
              have HT7 := Lib.hid hTS
              have HAD : Hid ((ps.flatten ++ (p ++ [(4, z, b)])).foldl addTo cs = ((ps.flatten ++ p).foldl addTo cs).set z ((((ps.flatten ++ p).foldl addTo cs).getD z 0 + b) % 4294967296)) := by
                show _ = _
                rw [← List.append_assoc, List.foldl_append]
                rfl
              obtain ⟨q, hq⟩ : ∃ q, q = ((ps.flatten ++ p).foldl addTo cs).getD z 0 := ⟨_, rfl⟩
              rw [← hq] at gw HAD
              clear own7 grow7 fresh7 hT7 hTS hq
              go_wp2
              go_roundw
              case rel =>
                refine ⟨j + 1, p ++ [(4, z, b)], by omega, by go_num, by rw [HAE.out]; go_num, ?_, by have := HPL.out; simp; exact this, fun d hd => ?_⟩
                · have h7 := HT7.out ((q + b) % 4294967296)
                  rw [HAD.out]
                  exact h7
                · rcases List.mem_append.1 hd with h | h
                  · exact HOD.out d h
                  · rw [List.mem_singleton] at h
                    subst h
                    exact ⟨⟨by show 1 ≤ 4; decide, by show 4 ≤ 6; decide, by show z < 4; omega, by show b ≤ 1048576; omega⟩, rfl⟩
              case measure => simp [intOf]; omega
            · have hna : (nb : Int) ≤ a := by omega
              have hPo := HT.out.P.alloc (.cells #[.int .i64 4, .int .i64 z, .int .i64 0] 38)
              rw [HPL.out] at hPo
              have HPO := Lib.hid hPo
              clear hPo
              go_wp2_with (at_builtin; go_loud (refine wpList_append_fresh _ rfl (.tmp 63) (.tmp 67) 35 rfl w2.heap.size 38 i2 (.agg #[.int .i64 0, .int .i64 0, .int .i64 0]) 3 24 Try.underlying35 hi2 hx0 hx1 hx2 rfl (by decide) _ _ _ rfl HPO.out ⟨_, 0, none⟩ 1 1 [.int .i64 4, .int .i64 z, .int .i64 0] rfl rfl (cells3_new _ _ _ _ _) one3 (by unfold maxLen; omega) (by omega) (by have := HT.out.size; simp; omega) ?_))
              intro v7 w7 own7 grow7 fresh7
              have hT7 := (HT.out.alloc (.cells #[.int .i64 4, .int .i64 z, .int .i64 0] 38)).appP (d := (4, z, 0)) (by rw [HPL.out]; exact own7) grow7 (by simpa using fresh7)
              have gw := hT7.cellW HWL.out (i := z) (by omega)
              have fw := hT7.frozenW HWL.out z
              have hTS := fun q => hT7.setW' HWL.out z q
              have HT7 := Lib.hid hTS
              have HAD : Hid ((ps.flatten ++ (p ++ [(4, z, 0)])).foldl addTo cs = ((ps.flatten ++ p).foldl addTo cs).set z ((((ps.flatten ++ p).foldl addTo cs).getD z 0 + 0) % 4294967296)) := by
                show _ = _
                rw [← List.append_assoc, List.foldl_append]
                rfl
              obtain ⟨q, hq⟩ : ∃ q, q = ((ps.flatten ++ p).foldl addTo cs).getD z 0 := ⟨_, rfl⟩
              rw [← hq] at gw HAD
              clear own7 grow7 fresh7 hT7 hTS hq
              go_wp2
              go_roundw
              case rel =>
                refine ⟨j + 1, p ++ [(4, z, 0)], by omega, by go_num, by rw [HAE.out]; go_num, ?_, by have := HPL.out; simp; exact this, fun d hd => ?_⟩
                · have h7 := HT7.out ((q + 0) % 4294967296)
                  rw [HAD.out]
                  exact h7
                · rcases List.mem_append.1 hd with h | h
                  · exact HOD.out d h
                  · rw [List.mem_singleton] at h
                    subst h
                    exact ⟨⟨by show 1 ≤ 4; decide, by show 4 ≤ 6; decide, by show z < 4; omega, by show 0 ≤ 1048576; omega⟩, rfl⟩
              case measure => simp [intOf]; omega
          · obtain rfl : j = x := by omega
            obtain ⟨pa, pc, hv15⟩ : ∃ pa pc, u15 = .slice pa j pc := by
              rcases HT.out.P.2 with ⟨h, h0⟩ | ⟨g, cap, cur, h, _⟩
              · exact ⟨none, 0, by rw [h, ← HPL.out, h0]⟩
              · exact ⟨_, cap, by rw [h, HPL.out]⟩
            subst hv15
            have hpl := HPL.out
            subst hpl
            obtain ⟨vals, hown, hX⟩ := (HT.out.alloc (.cells #[.slice pa p.length pc] 35)).R
            have HXV := Lib.hid hX
            have hpsl := HA.out.len
            clear hX
            go_wp2_with (at_builtin; go_loud (refine wpList_append_fresh _ rfl (.tmp 78) (.tmp 80) 34 rfl w2.heap.size 35 i1 (.slice none 0 0) 1 24 Try.underlying34 hi1 hy0 hy1 hy2 rfl (by decide) _ _ _ rfl hown ⟨_, 0, none⟩ 1 1 [.slice pa p.length pc] rfl rfl (cells1_new _ _ _) oneS (by unfold maxLen; omega) (by omega) (by have := HT.out.size; simp; omega) ?_))
            intro v7 w7 own7 grow7 fresh7
            have HT7 := Lib.hid ((HT.out.alloc (.cells #[.slice pa p.length pc] 35)).appR HXV.out (by rw [hpsl]; exact own7) grow7 (by simpa using fresh7))
            have HA7 := Lib.hid (HA.out.next hil HXE.out HOD.out)
            rw [← HXE.out] at HA7
            clear own7 grow7 fresh7 hown hpsl
            go_wp2
            go_roundw
            case rel =>
              refine ⟨i + 1, _, ps ++ [p], by omega, by go_num, rfl, ?_, HA7.out⟩
              have h7 := HT7.out
              rw [show (ps ++ [p]).flatten = ps.flatten ++ p from by simp]
              exact h7
            case measure => simp [intOf]; omega
      · obtain rfl : i = n := by omega
        obtain ⟨w4, rfl⟩ : ∃ x : World, x = wr := ⟨_, rfl⟩
        have hpos := count_pos ⟨HG.out.1, HX.out⟩
        have hns := HNS.out.keep HT.out.bel
        have hcnt := Count_is HG.out hns
        obtain ⟨C, hC⟩ : ∃ C, C = countR l := ⟨_, rfl⟩
        rw [← hC] at hcnt hpos
        have HCE := Lib.hid hC
        have HCNT := Lib.hid hcnt
        have HNS4 := Lib.hid hns
        have HB4 := Lib.hid (HB2.out.trans (HT.out.bel.mono HB2.out.size))
        have hcs4 := HCS2.out.keep HT.out.bel
        have hwr4 := u32S_of HT.out.W
        have hpr4 := HT.out.progs
        obtain ⟨W, hW⟩ : ∃ W, W = ps.flatten.foldl addTo cs := ⟨_, rfl⟩
        have HWL : Hid (W.length = 4) := by show _ = _; rw [hW, fold_length]; exact HCL.out
        rw [← hW] at hwr4
        have HWE := Lib.hid hW
        have HCS4 := Lib.hid hcs4
        have HWR4 := Lib.hid hwr4
        have HPR4 := Lib.hid hpr4
        have hc1 : (1 : Int) ≤ C := by omega
        have HC2 := Lib.hid hpos.2
        clear hC hcnt hns hcs4 hwr4 hpr4 hW hpos
        go_wp2_with fail
        refine HCNT.out.mono ?_
        rintro e w5 ⟨rfl, rfl⟩
        go_wp2_with fail
        refine (within_any k C _ hc1 (by have := HC2.out; omega)).mono ?_
        rintro e w5 ⟨rfl, rfl⟩
        obtain ⟨z, hz⟩ : ∃ z : Nat, k % C = z := ⟨(k % C).toNat, by have := Int.emod_nonneg k (show (C : Int) ≠ 0 by omega); omega⟩
        have hzC : z < C := by have := Int.emod_lt_of_pos k (show (0 : Int) < C by omega); omega
        rw [hz]
        have hzl : z < countR l := by rw [← HCE.out]; exact hzC
        have hat := at_is (k0 := z) HG.out hzl HNS4.out
        obtain ⟨hs', hplay⟩ := adds_law (ps := ps) cs ⟨HG.out.1, HX.out⟩ HG.out.2 hzl (by rw [HA.out.len, HN.out]) (by rw [← HN.out]; exact HA.out.each) HA.out.four
        have hol := at_length ⟨HG.out.1, HX.out⟩ HG.out.2 hzl 13 (by have := HG.out.2; omega)
        rw [← HWE.out] at hplay
        have HAT := Lib.hid hat
        have HPLAY := Lib.hid hplay
        have HOL := Lib.hid (show (atR l z).length ≤ 12 by rw [atR, hol]; exact HG.out.2)
        clear hat hplay hol hz hzC hzl
        go_wp2_with fail
        refine HAT.out.mono ?_
        rintro e w5 ⟨v20, rfl, hord, hb5⟩
        have hpl := play_is (HCS4.out.keep hb5) (by rw [HCL.out]; omega) (by intro h; have := HCL.out; rw [h] at this; simp at this <;> omega) HCV.out (HPR4.out.keep hb5 (Nat.le_refl _)) (by rw [HA.out.len]; exact hl4) (by intro j hj; rw [HA.out.len] at hj; rw [HA.out.each j hj]; exact Nat.le_trans (getD_le (by rw [← HN.out]; exact hj)) HG.out.2) (by rw [HCL.out]; exact HA.out.ok) hord HOL.out HPLAY.out
        have HPLC := Lib.hid hpl
        have HB5 := Lib.hid (HB4.out.trans (hb5.mono HB4.out.size))
        have HWR5 := Lib.hid (HWR4.out.keep hb5)
        clear hord hb5 hpl
        go_wp2_with fail
        refine HPLC.out.mono ?_
        rintro e w6 ⟨v22, v23, rfl, hgot, _, hb6⟩
        have hb7 := (HB5.out.trans (hb6.mono HB5.out.size)).alloc (by have := (HB5.out.trans (hb6.mono HB5.out.size)).size; exact this) (.cells #[.int .i64 0, .int .i64 0] 26)
        have hw7 := (HWR5.out.keep hb6).keep (Go.Joins.below_alloc1 w6 (.cells #[.int .i64 0, .int .i64 0] 26))
        have hg7 := hgot.keep (Go.Joins.below_alloc1 w6 (.cells #[.int .i64 0, .int .i64 0] 26))
        have HB7 := Lib.hid hb7
        have HEQ := Lib.hid (equalU_is hg7 hw7)
        clear hb7 hw7 hg7 hgot hb6
        go_wp2_with fail
        refine (good_any _ _ [0, 0] _ (by simp) (two0 _ _)).mono ?_
        rintro e w7 ⟨rfl, rfl⟩
        rw [show ([(0 : Int), 0].all (· == 0)) = true from rfl]
        generalize w6.alloc (.cells #[.int .i64 0, .int .i64 0] 26) = w7 at *
        go_wp2_with fail
        refine HEQ.out.mono ?_
        rintro e w8 ⟨rfl, hb8⟩
        have HB8 := Lib.hid (HB7.out.trans (hb8.mono HB7.out.size))
        clear hb8
        go_wp2
        go_ret
        exact ⟨rfl, HB8.out⟩
  · go_enter Try.func4, Try.ntmps4
    go_wp2_with fail
    refine (turns_any _).mono ?_
    rintro e w1 ⟨rfl, hb1⟩
    obtain ⟨cs, hcl', hcs, hcv⟩ := HPRE.out 4 (by omega)
    have HCS := Lib.hid (hcs.keep hb1)
    have HCV := Lib.hid hcv
    have HCL := Lib.hid hcl'
    have HB1 := Lib.hid hb1
    have hcapc : (4 : Int) ≤ capc := by omega
    clear hcs hcv hcl' hb1
    have hc4 : (4 : Nat) ≤ 4 := Nat.le_refl _
    go_wp2_with fail
    refine (HLO.out _ HB1.out).mono ?_
    rintro e w2 ⟨v9, l, rfl, hrow, hb2, hg, hx⟩
    have HB2 := Lib.hid (HB1.out.trans (hb2.mono HB1.out.size))
    have HCS2 := Lib.hid (HCS.out.keep hb2)
    have hl4 := hg.1
    have HNS := Lib.hid (natS_of hrow)
    have HG := Lib.hid hg
    have HX := Lib.hid hx
    obtain ⟨a9, cap9, hv9, _, _, hl9⟩ := natS_of hrow
    subst hv9
    obtain ⟨n, hn⟩ : ∃ n, n = l.length := ⟨_, rfl⟩
    rw [← hn] at hl4 HNS ⊢
    have HN := Lib.hid hn
    have HL9 := Lib.hid hl9
    have hclo := cloneU_is (by rw [HCL.out]; omega) HCS2.out
    have HCLO := Lib.hid hclo
    clear hg hx hrow hb2 hn hl9 hclo
    go_wp2_with fail
    refine HCLO.out.mono ?_
    rintro e w3 ⟨v10, rfl, hwant, hb3⟩
    rcases hwant.2 with ⟨_, hn0⟩ | ⟨gW, capW, cur, rfl, _⟩
    · have := HCL.out; omega
    rw [HCL.out]
    have hTA : TA w2.heap.size w2 w3 (.slice (some ⟨gW, 0, none⟩) 4 capW) (.slice none 0 0) (.slice none 0 0) (([] : List D).foldl addTo cs) [] [] :=
      ⟨hb3, hb3.size, by have := hwant; unfold U32Row at this ⊢; rw [show (([] : List D).foldl addTo cs) = cs from rfl]; rw [HCL.out] at this ⊢; exact this, World.ownsRow_nil _ _ _ _, ⟨[], World.ownsRow_nil _ _ _ _, rfl, fun j hj => absurd hj (Nat.not_lt_zero _)⟩, (apart_nil _).symm, (apart_nil _).symm, apart_nil _⟩
    have HT := Lib.hid hTA
    clear hTA hwant hb3
    obtain ⟨i1, hi1, hy0, hy1, hy2⟩ := info_parts info35
    obtain ⟨i2, hi2, hx0, hx1, hx2⟩ := info_parts info38
    go_wp2_with fail
    go_loopw [11, 12, 41] (fun pv av iv wr => ∃ (i cnt : Nat) (ps : List (List D)), i ≤ n ∧ iv = .int .i64 i ∧ av = .int .i64 cnt ∧ Hid (TA w2.heap.size w2 wr (.slice (some ⟨gW, 0, none⟩) 4 capW) pv (.slice none 0 0) (ps.flatten.foldl addTo cs) ps []) ∧ Hid (AI 4 l i cnt ps)) (fun _ _ iv _ => n - (intOf iv).toNat)
    case atStart => exact ⟨0, 0, [], Nat.zero_le _, rfl, rfl, HT.out, AI.start _ _⟩
    case round =>
      clear HT
      obtain ⟨i, cnt, ps, hi, rfl, rfl, HT, HA⟩ := hrel
      by_cases hin : i < n
      · have hil : i < l.length := by rw [← HN.out]; exact hin
        rcases HL9.out with h0 | ⟨b9, o9, rfl, hb9, hc9⟩
        · rw [h0] at hil; simp at hil
        have g9 := (HT.out.bel.cell (p := ⟨b9, o9 + i, none⟩) hb9).trans (hc9 i hil)
        obtain ⟨x, hx⟩ : ∃ x, x = l.getD i 0 := ⟨_, rfl⟩
        rw [← hx] at g9
        have hx4 : x ≤ 4 := by rw [hx]; exact HX.out _ (by simp [List.getD, hil])
        have hcx : cnt + x ≤ 12 := by rw [hx]; exact HA.out.room HG.out.2 hil
        have HXE := Lib.hid hx
        have hxi : (x : Int) ≤ 4 := by omega
        unfold natV at g9
        clear hx hc9
        have HX4 := Lib.hid hx4
        have hx8 : ∀ y, y ≤ x → cnt + y ≤ 12 := by intro y hy; omega
        have HX8 := Lib.hid hx8
        clear hx4 hcx hx8
        go_wp2_with fail
        go_loopw [12, 15, 46] (fun av pv jv wr => ∃ (j : Nat) (p : List D), j ≤ x ∧ jv = .int .i64 j ∧ av = .int .i64 ((cnt + j : Nat) : Int) ∧ Hid (TA w2.heap.size w2 wr (.slice (some ⟨gW, 0, none⟩) 4 capW) u11 pv ((ps.flatten ++ p).foldl addTo cs) ps p) ∧ Hid (p.length = j) ∧ Hid (∀ d ∈ p, okD 4 d ∧ d.1 = 4)) (fun _ _ jv _ => x - (intOf jv).toNat)
        case atStart => exact ⟨0, [], Nat.zero_le _, rfl, rfl, by rw [List.append_nil]; exact HT.out, rfl, fun d hd => absurd hd List.not_mem_nil⟩
        case round =>
          clear HT g9
          obtain ⟨j, p, hj, rfl, rfl, HT, HPL, HOD⟩ := hrel
          by_cases hjx : j < x
          · have ha12 := HX8.out j hj
            obtain ⟨a, ha⟩ : ∃ a, a = cnt + j := ⟨_, rfl⟩
            rw [← ha] at ha12 ⊢
            have HAE := Lib.hid ha
            have hai : (a : Int) ≤ 12 := by omega
            obtain ⟨z, hz⟩ : ∃ z : Nat, ((a : Int) + 1) % (4 : Int) = z := ⟨(((a : Int) + 1) % (4 : Int)).toNat, by have := Int.emod_nonneg ((a : Int) + 1) (show ((4 : Int) : Int) ≠ 0 by omega); omega⟩
            have hzc : (z : Int) < (4 : Int) := by have := Int.emod_lt_of_pos ((a : Int) + 1) (show (0 : Int) < (4 : Int) by omega); omega
            have hwl : ((ps.flatten ++ p).foldl addTo cs).length = 4 := by rw [fold_length]; exact HCL.out
            have HWL := Lib.hid hwl
            clear ha hwl ha12
            by_cases hab : a < nb
            · rcases HBB.out with h0 | ⟨bb, ob, rfl, hbb, hbc⟩
              · have := HNB.out; rw [h0] at this; simp at this; omega
              have gb := ((HB2.out.trans (HT.out.bel.mono HB2.out.size)).cell (p := ⟨bb, ob + a, none⟩) hbb).trans (hbc a (by rw [← HNB.out]; exact hab))
              obtain ⟨y, hy⟩ : ∃ y, y = bys.getD a 0 := ⟨_, rfl⟩
              rw [← hy] at gb
              obtain ⟨b, hb⟩ : ∃ b : Nat, y % 1048576 = b := ⟨(y % 1048576).toNat, by omega⟩
              have hbi : (b : Int) ≤ 1048575 := by omega
              have HB := Lib.hid hb
              have hbn := HNB63.out
              clear hy hb hbc
              go_wp2_with fail
              refine (within_any y 1048576 _ (by decide) (by decide)).mono ?_
              rintro e w5 ⟨rfl, rfl⟩
              rw [HB.out]
              clear gb
              have hPo := HT.out.P.alloc (.cells #[.int .i64 4, .int .i64 z, .int .i64 (b : Int)] 38)
              rw [HPL.out] at hPo
              have HPO := Lib.hid hPo
              clear hPo
              go_wp2_with (at_builtin; go_loud (refine wpList_append_fresh _ rfl (.tmp 63) (.tmp 67) 35 rfl w2.heap.size 38 i2 (.agg #[.int .i64 0, .int .i64 0, .int .i64 0]) 3 24 Try.underlying35 hi2 hx0 hx1 hx2 rfl (by decide) _ _ _ rfl HPO.out ⟨_, 0, none⟩ 1 1 [.int .i64 4, .int .i64 z, .int .i64 (b : Int)] rfl rfl (cells3_new _ _ _ _ _) one3 (by unfold maxLen; omega) (by omega) (by have := HT.out.size; simp; omega) ?_))
              intro v7 w7 own7 grow7 fresh7
              have hT7 := (HT.out.alloc (.cells #[.int .i64 4, .int .i64 z, .int .i64 (b : Int)] 38)).appP (d := (4, z, b)) (by rw [HPL.out]; exact own7) grow7 (by simpa using fresh7)
              have gw := hT7.cellW HWL.out (i := z) (by omega)
              have fw := hT7.frozenW HWL.out z
              have hTS := fun q => hT7.setW' HWL.out z q
              have HT7 := Lib.hid hTS
              have HAD : Hid ((ps.flatten ++ (p ++ [(4, z, b)])).foldl addTo cs = ((ps.flatten ++ p).foldl addTo cs).set z ((((ps.flatten ++ p).foldl addTo cs).getD z 0 + b) % 4294967296)) := by
                show _ = _
                rw [← List.append_assoc, List.foldl_append]
                rfl
              obtain ⟨q, hq⟩ : ∃ q, q = ((ps.flatten ++ p).foldl addTo cs).getD z 0 := ⟨_, rfl⟩
              rw [← hq] at gw HAD
              clear own7 grow7 fresh7 hT7 hTS hq
              go_wp2
              go_roundw
              case rel =>
                refine ⟨j + 1, p ++ [(4, z, b)], by omega, by go_num, by rw [HAE.out]; go_num, ?_, by have := HPL.out; simp; exact this, fun d hd => ?_⟩
                · have h7 := HT7.out ((q + b) % 4294967296)
                  rw [HAD.out]
                  exact h7
                · rcases List.mem_append.1 hd with h | h
                  · exact HOD.out d h
                  · rw [List.mem_singleton] at h
                    subst h
                    exact ⟨⟨by show 1 ≤ 4; decide, by show 4 ≤ 6; decide, by show z < 4; omega, by show b ≤ 1048576; omega⟩, rfl⟩
              case measure => simp [intOf]; omega
            · have hna : (nb : Int) ≤ a := by omega
              have hPo := HT.out.P.alloc (.cells #[.int .i64 4, .int .i64 z, .int .i64 0] 38)
              rw [HPL.out] at hPo
              have HPO := Lib.hid hPo
              clear hPo
              go_wp2_with (at_builtin; go_loud (refine wpList_append_fresh _ rfl (.tmp 63) (.tmp 67) 35 rfl w2.heap.size 38 i2 (.agg #[.int .i64 0, .int .i64 0, .int .i64 0]) 3 24 Try.underlying35 hi2 hx0 hx1 hx2 rfl (by decide) _ _ _ rfl HPO.out ⟨_, 0, none⟩ 1 1 [.int .i64 4, .int .i64 z, .int .i64 0] rfl rfl (cells3_new _ _ _ _ _) one3 (by unfold maxLen; omega) (by omega) (by have := HT.out.size; simp; omega) ?_))
              intro v7 w7 own7 grow7 fresh7
              have hT7 := (HT.out.alloc (.cells #[.int .i64 4, .int .i64 z, .int .i64 0] 38)).appP (d := (4, z, 0)) (by rw [HPL.out]; exact own7) grow7 (by simpa using fresh7)
              have gw := hT7.cellW HWL.out (i := z) (by omega)
              have fw := hT7.frozenW HWL.out z
              have hTS := fun q => hT7.setW' HWL.out z q
              have HT7 := Lib.hid hTS
              have HAD : Hid ((ps.flatten ++ (p ++ [(4, z, 0)])).foldl addTo cs = ((ps.flatten ++ p).foldl addTo cs).set z ((((ps.flatten ++ p).foldl addTo cs).getD z 0 + 0) % 4294967296)) := by
                show _ = _
                rw [← List.append_assoc, List.foldl_append]
                rfl
              obtain ⟨q, hq⟩ : ∃ q, q = ((ps.flatten ++ p).foldl addTo cs).getD z 0 := ⟨_, rfl⟩
              rw [← hq] at gw HAD
              clear own7 grow7 fresh7 hT7 hTS hq
              go_wp2
              go_roundw
              case rel =>
                refine ⟨j + 1, p ++ [(4, z, 0)], by omega, by go_num, by rw [HAE.out]; go_num, ?_, by have := HPL.out; simp; exact this, fun d hd => ?_⟩
                · have h7 := HT7.out ((q + 0) % 4294967296)
                  rw [HAD.out]
                  exact h7
                · rcases List.mem_append.1 hd with h | h
                  · exact HOD.out d h
                  · rw [List.mem_singleton] at h
                    subst h
                    exact ⟨⟨by show 1 ≤ 4; decide, by show 4 ≤ 6; decide, by show z < 4; omega, by show 0 ≤ 1048576; omega⟩, rfl⟩
              case measure => simp [intOf]; omega
          · obtain rfl : j = x := by omega
            obtain ⟨pa, pc, hv15⟩ : ∃ pa pc, u15 = .slice pa j pc := by
              rcases HT.out.P.2 with ⟨h, h0⟩ | ⟨g, cap, cur, h, _⟩
              · exact ⟨none, 0, by rw [h, ← HPL.out, h0]⟩
              · exact ⟨_, cap, by rw [h, HPL.out]⟩
            subst hv15
            have hpl := HPL.out
            subst hpl
            obtain ⟨vals, hown, hX⟩ := (HT.out.alloc (.cells #[.slice pa p.length pc] 35)).R
            have HXV := Lib.hid hX
            have hpsl := HA.out.len
            clear hX
            go_wp2_with (at_builtin; go_loud (refine wpList_append_fresh _ rfl (.tmp 78) (.tmp 80) 34 rfl w2.heap.size 35 i1 (.slice none 0 0) 1 24 Try.underlying34 hi1 hy0 hy1 hy2 rfl (by decide) _ _ _ rfl hown ⟨_, 0, none⟩ 1 1 [.slice pa p.length pc] rfl rfl (cells1_new _ _ _) oneS (by unfold maxLen; omega) (by omega) (by have := HT.out.size; simp; omega) ?_))
            intro v7 w7 own7 grow7 fresh7
            have HT7 := Lib.hid ((HT.out.alloc (.cells #[.slice pa p.length pc] 35)).appR HXV.out (by rw [hpsl]; exact own7) grow7 (by simpa using fresh7))
            have HA7 := Lib.hid (HA.out.next hil HXE.out HOD.out)
            rw [← HXE.out] at HA7
            clear own7 grow7 fresh7 hown hpsl
            go_wp2
            go_roundw
            case rel =>
              refine ⟨i + 1, _, ps ++ [p], by omega, by go_num, rfl, ?_, HA7.out⟩
              have h7 := HT7.out
              rw [show (ps ++ [p]).flatten = ps.flatten ++ p from by simp]
              exact h7
            case measure => simp [intOf]; omega
      · obtain rfl : i = n := by omega
        obtain ⟨w4, rfl⟩ : ∃ x : World, x = wr := ⟨_, rfl⟩
        have hpos := count_pos ⟨HG.out.1, HX.out⟩
        have hns := HNS.out.keep HT.out.bel
        have hcnt := Count_is HG.out hns
        obtain ⟨C, hC⟩ : ∃ C, C = countR l := ⟨_, rfl⟩
        rw [← hC] at hcnt hpos
        have HCE := Lib.hid hC
        have HCNT := Lib.hid hcnt
        have HNS4 := Lib.hid hns
        have HB4 := Lib.hid (HB2.out.trans (HT.out.bel.mono HB2.out.size))
        have hcs4 := HCS2.out.keep HT.out.bel
        have hwr4 := u32S_of HT.out.W
        have hpr4 := HT.out.progs
        obtain ⟨W, hW⟩ : ∃ W, W = ps.flatten.foldl addTo cs := ⟨_, rfl⟩
        have HWL : Hid (W.length = 4) := by show _ = _; rw [hW, fold_length]; exact HCL.out
        rw [← hW] at hwr4
        have HWE := Lib.hid hW
        have HCS4 := Lib.hid hcs4
        have HWR4 := Lib.hid hwr4
        have HPR4 := Lib.hid hpr4
        have hc1 : (1 : Int) ≤ C := by omega
        have HC2 := Lib.hid hpos.2
        clear hC hcnt hns hcs4 hwr4 hpr4 hW hpos
        go_wp2_with fail
        refine HCNT.out.mono ?_
        rintro e w5 ⟨rfl, rfl⟩
        go_wp2_with fail
        refine (within_any k C _ hc1 (by have := HC2.out; omega)).mono ?_
        rintro e w5 ⟨rfl, rfl⟩
        obtain ⟨z, hz⟩ : ∃ z : Nat, k % C = z := ⟨(k % C).toNat, by have := Int.emod_nonneg k (show (C : Int) ≠ 0 by omega); omega⟩
        have hzC : z < C := by have := Int.emod_lt_of_pos k (show (0 : Int) < C by omega); omega
        rw [hz]
        have hzl : z < countR l := by rw [← HCE.out]; exact hzC
        have hat := at_is (k0 := z) HG.out hzl HNS4.out
        obtain ⟨hs', hplay⟩ := adds_law (ps := ps) cs ⟨HG.out.1, HX.out⟩ HG.out.2 hzl (by rw [HA.out.len, HN.out]) (by rw [← HN.out]; exact HA.out.each) HA.out.four
        have hol := at_length ⟨HG.out.1, HX.out⟩ HG.out.2 hzl 13 (by have := HG.out.2; omega)
        rw [← HWE.out] at hplay
        have HAT := Lib.hid hat
        have HPLAY := Lib.hid hplay
        have HOL := Lib.hid (show (atR l z).length ≤ 12 by rw [atR, hol]; exact HG.out.2)
        clear hat hplay hol hz hzC hzl
        go_wp2_with fail
        refine HAT.out.mono ?_
        rintro e w5 ⟨v20, rfl, hord, hb5⟩
        have hpl := play_is (HCS4.out.keep hb5) (by rw [HCL.out]; omega) (by intro h; have := HCL.out; rw [h] at this; simp at this <;> omega) HCV.out (HPR4.out.keep hb5 (Nat.le_refl _)) (by rw [HA.out.len]; exact hl4) (by intro j hj; rw [HA.out.len] at hj; rw [HA.out.each j hj]; exact Nat.le_trans (getD_le (by rw [← HN.out]; exact hj)) HG.out.2) (by rw [HCL.out]; exact HA.out.ok) hord HOL.out HPLAY.out
        have HPLC := Lib.hid hpl
        have HB5 := Lib.hid (HB4.out.trans (hb5.mono HB4.out.size))
        have HWR5 := Lib.hid (HWR4.out.keep hb5)
        clear hord hb5 hpl
        go_wp2_with fail
        refine HPLC.out.mono ?_
        rintro e w6 ⟨v22, v23, rfl, hgot, _, hb6⟩
        have hb7 := (HB5.out.trans (hb6.mono HB5.out.size)).alloc (by have := (HB5.out.trans (hb6.mono HB5.out.size)).size; exact this) (.cells #[.int .i64 0, .int .i64 0] 26)
        have hw7 := (HWR5.out.keep hb6).keep (Go.Joins.below_alloc1 w6 (.cells #[.int .i64 0, .int .i64 0] 26))
        have hg7 := hgot.keep (Go.Joins.below_alloc1 w6 (.cells #[.int .i64 0, .int .i64 0] 26))
        have HB7 := Lib.hid hb7
        have HEQ := Lib.hid (equalU_is hg7 hw7)
        clear hb7 hw7 hg7 hgot hb6
        go_wp2_with fail
        refine (good_any _ _ [0, 0] _ (by simp) (two0 _ _)).mono ?_
        rintro e w7 ⟨rfl, rfl⟩
        rw [show ([(0 : Int), 0].all (· == 0)) = true from rfl]
        generalize w6.alloc (.cells #[.int .i64 0, .int .i64 0] 26) = w7 at *
        go_wp2_with fail
        refine HEQ.out.mono ?_
        rintro e w8 ⟨rfl, hb8⟩
        have HB8 := Lib.hid (HB7.out.trans (hb8.mono HB7.out.size))
        clear hb8
        go_wp2
        go_ret
        exact ⟨rfl, HB8.out⟩
end Go.Proofs.Ytopadiofanaaiaa.TurnLaw
