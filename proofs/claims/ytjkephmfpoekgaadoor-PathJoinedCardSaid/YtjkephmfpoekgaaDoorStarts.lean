/- The walks of path.start and path.Walk. -/
import Derived.Test.YtjkephmfpoekgaaDoorWays
namespace Go.Proofs.YtjkephmfpoekgaaDoor.PathLaw
open Go.RowKit Go.Proofs.YtjkephmfpoekgaaDoor.CredLaw
set_option linter.unusedVariables false
set_option linter.unusedSimpArgs false
theorem LsR.own2 {w1 w' : World} {B b : Nat} {v sv : Value} {l : List ByteArray} (h : w1.ownsRow B 9 1 v l.length (l.map Value.string)) (hbe : Below w1.heap.size w1 w') (hb : w1.heap.size ≤ b) (hs : ∀ g, sv.ownBlock = some g → w1.heap.size ≤ g) : LsR w' b sv v l := by
  obtain ⟨a, cap, hv, h1, h2, h3⟩ := at_of_owned (f := Value.string) (d := (⟨#[]⟩ : ByteArray)) h
  refine ⟨a, cap, hv, h1, h2, ?_⟩
  rcases h3 with h3 | ⟨g, off, ha, hlt, hc⟩
  · exact .inl h3
  · exact .inr ⟨g, off, ha, by omega, fun e => by have := hs g e; omega, Nat.lt_of_lt_of_le hlt hbe.size, fun i hi => (hbe.cell (p := ⟨g, off + i, none⟩) hlt).trans (hc i hi)⟩
def StartPost (W0 : World) (T : List Nd) (tv : Value) (c : C) (mv : Value) (cwd : List Int) (s : ByteArray) (E : Ending) (w' : World) : Prop :=
  ∃ (wp : Option Addr) (lv : Value), E = .returned (.tuple #[.pointer wp, lv, .int .i64 (startT c cwd s.data.toList).1]) ∧ Below W0.heap.size W0 w' ∧ ((startT c cwd s.data.toList).1 = 0 → ∃ (b : Nat) (sv : Value), wp = some ⟨b, 0, none⟩ ∧
    ∀ f, WR W0 w' b T tv c mv f (walkT (fsT T) c f 8 (startT c cwd s.data.toList).2.1 (startT c cwd s.data.toList).2.2) lv 8 (startT c cwd s.data.toList).2.1 (startT c cwd s.data.toList).2.2 sv)
theorem StartPost.err {W0 : World} {T : List Nd} {tv : Value} {c : C} {mv : Value} {cwd : List Int} {s : ByteArray} {E : Ending} {w' : World} {e : Int} {r : List Int × List ByteArray} {wp : Option Addr} {lv : Value} (h : startT c cwd s.data.toList = (e, r)) (he : e ≠ 0) (hE : E = .returned (.tuple #[.pointer wp, lv, .int .i64 e])) (hb : Below W0.heap.size W0 w') : StartPost W0 T tv c mv cwd s E w' := by
  unfold StartPost
  rw [h]
  exact ⟨wp, lv, hE, hb, fun h => absurd h he⟩
/-- a clone of a stack that may be some elements longer than an argument -/
theorem eq25 (a : Addr) (n c : Nat) (w : World) : (binOp .eql 25 (.slice (some a) n c) (.slice none 0 0)).run Tryd.prog w = .ok (.bool false) w := by kernel_rfl
theorem bs25 (w : World) : (Instr.buildSlice 25 0 #[]).run Tryd.prog w = .ok (.slice (some ⟨w.heap.size, 0, none⟩) 0 0) (w.alloc (.cells #[] 3)) := by kernel_rfl
section
attribute [local go_sem ↓] app25_eq
set_option maxRecDepth 100000 in
set_option maxHeartbeats 400000 in
theorem clone_big {w : World} {v : Value} {st : List Int} (h : At (Value.int .i64) 0 w v st) (hl : st.length ≤ 17592186045440) : Calls Tryd.prog 15 #[v] w (ClonePost (Value.int .i64) 3 st w) := by
  by_cases hs : st.length * 8 ≤ 140737488355328
  · exact clone_int h hs
  · obtain ⟨a, cap, rfl, h1, h2, h3⟩ := h
    rcases h3 with rfl | ⟨b, off, rfl, hlt, hc⟩
    · simp at hs
    obtain ⟨i0, hi3, hz0, hz1, hz2⟩ := info_parts info3
    have hal := Go.Joins.below_alloc1 w (.cells #[] 3)
    have hown : (w.alloc (.cells #[] 3)).ownsRow w.heap.size 3 1 (.slice (some ⟨w.heap.size, 0, none⟩) 0 0) 0 [] := ⟨rfl, .inr ⟨w.heap.size, 0, #[], rfl, Nat.le_refl _, heap_alloc_new w _, Nat.le_refl _, by unfold maxLen; omega, rfl, rfl⟩⟩
    have hcl : ∀ j u, (st.map (Value.int .i64))[j]? = some u → (w.alloc (.cells #[] 3)).cell? ((⟨b, off, none⟩ : Addr).add j) = some u := by
      intro j u hu
      rw [List.getElem?_map] at hu
      cases e : st[j]? with
      | none => rw [e] at hu; cases hu
      | some x =>
        rw [e] at hu
        injection hu with hu
        subst hu
        have hj : j < st.length := (List.getElem?_eq_some_iff.1 e).1
        have hx := hc j hj
        rw [List.getD_eq_getElem?_getD, e] at hx
        rw [Addr.add_lit]
        exact (hal.cell (p := ⟨b, off + j, none⟩) hlt).trans hx
    obtain ⟨v', w', hr, ho, hg, hd⟩ := run_append_wide (P := Tryd.prog) (w.alloc (.cells #[] 3)) w.heap.size 25 25 3 i0 (.int .i64 0) 1 8 Tryd.underlying25 hi3 hz0 hz1 hz2 rfl (by decide) (.slice (some ⟨w.heap.size, 0, none⟩) 0 0) 0 [] hown ⟨b, off, none⟩ st.length cap (st.map (Value.int .i64)) (by simp) hcl (fun u hu => by obtain ⟨q, _, rfl⟩ := List.mem_map.1 hu; rfl) (by unfold maxLen; omega) (by omega) (by simp)
    rw [app25_eq] at hr
    have hb' : Below w.heap.size w w' := hal.trans ((Below.refl w.heap.size _).grown hg hal.size (fun k e => by have e : some w.heap.size = some k := e; injection e with e; omega))
    rw [Nat.zero_add, List.nil_append] at ho
    have HO := Lib.hid ho
    have HB := Lib.hid hb'
    have q1 := eq25 ⟨b, off, none⟩ st.length cap w
    have q2 := bs25 w
    clear hown hcl hg hd ho hb' hc hal h1 h2 hl hs hlt
    go_enter Tryd.func15, Tryd.ntmps15
    go_wp2_with fail
    go_ret
    exact ⟨v', rfl, HO.out, HB.out⟩
end
theorem ret3 {p lv : Value} {x y : Int} (h : y = x) : Ending.returned (.tuple #[p, lv, .int .i64 x]) = .returned (.tuple #[p, lv, .int .i64 y]) := by rw [h]
set_option maxRecDepth 100000 in
set_option maxHeartbeats 1000000 in
theorem start_is {W0 w : World} {T : List Nd} {tv : Value} {c : C} {mv cv : Value} {cwd : List Int} {s : ByteArray} {m : Int} (hB : Below W0.heap.size W0 w) (ht : TreeS W0 tv T) (hmo : At (Value.int .i64) 0 W0 mv c.xs) (hcw : At (Value.int .i64) 0 W0 cv cwd) (hbig : cwd.length ≤ 17592186044416) (hm : W0.cell? ⟨0, 0, none⟩ = some (.int .i64 m)) :
    Calls Tryd.prog 13 #[.iface 24 tv, .slice none 0 0, encC c mv, cv, .string s] w (StartPost W0 T tv c mv cwd s) := by
  have hb1 := Go.Joins.below_alloc1 w (.cells #[.int .i64 c.user, .int .i64 c.group, mv, .int .i64 c.caps, .int .i64 c.level, .int .i64 c.kind] 27)
  have hh1 := has_new w [.int .i64 c.user, .int .i64 c.group, mv, .int .i64 c.caps, .int .i64 c.level, .int .i64 c.kind] 27
  have hB1 := hB.trans (hb1.mono hB.size)
  have hck := check_is (c := c) ⟨mv, rfl, hmo.keep hB1⟩
  have HB1 := Lib.hid hB1
  have HH1 := Lib.hid hh1
  obtain ⟨ca, cc, rfl, hcl, hccap, hcc⟩ := id hcw
  have hmx : (cc : Int) ≤ 9223372036854775807 := by have : cc ≤ maxLen := hccap; unfold maxLen at this; omega
  have HCW := Lib.hid hcw
  have HTR := Lib.hid ht
  have HMO := Lib.hid hmo
  have HM := Lib.hid hm
  clear hb1 hh1 hB1 hcw ht hmo hcc hm
  simp only [encC] at hck ⊢
  by_cases hc : chkC c = 0
  · rw [hc] at hck
    have HCK := Lib.hid hck
    have HC := Lib.hid hc
    clear hck hc
    by_cases hn : cwd = []
    · have HR := Lib.hid (show startT c cwd s.data.toList = (4, [], []) by rw [startT, if_neg (by rw [HC.out]; decide), if_pos hn])
      have hl0 : cwd.length = 0 := by rw [hn]; rfl
      rw [hl0]
      clear hn hl0
      go_enter Tryd.func13, Tryd.ntmps13
      go_wp2_with (first | (go_at_call 20; refine (mcheck_nil _).mono ?_; rintro e1 w1 ⟨rfl, rfl⟩) | (go_at_call 21; refine HCK.out.mono ?_; rintro e2 w2 ⟨rfl, hb2⟩))
      go_ret3
      exact StartPost.err HR.out (by decide) rfl (HB1.out.trans (hb2.mono HB1.out.size))
    · have hl0 : 0 < cwd.length := List.length_pos_iff.2 hn
      have hR : startT c cwd s.data.toList = if (splitT s.data.toList).2.2 ≠ 0 then ((splitT s.data.toList).2.2, [], []) else (0, rooted (splitT s.data.toList).1 cwd, (splitT s.data.toList).2.1) := by rw [startT, if_neg (by rw [HC.out]; decide), if_neg hn]
      have HRR := Lib.hid hR
      have HN := Lib.hid hn
      have d0 : ((cwd.length : Int) == 0) = false := by rw [beq_eq_false_iff_ne]; omega
      clear hR hn
      go_enter Tryd.func13, Tryd.ntmps13
      go_upto_region 9 with (first | (go_at_call 20; refine (mcheck_nil _).mono ?_; rintro e1 w1 ⟨rfl, rfl⟩) | (go_at_call 21; refine HCK.out.mono ?_; rintro e2 w2 ⟨rfl, hb2⟩))
      have HB2 := Lib.hid (HB1.out.trans (hb2.mono HB1.out.size))
      have HH2 := Lib.hid (HH1.out.keep hb2)
      have hsp := split_is s m w2 ((HB2.out.cell (p := ⟨0, 0, none⟩) (World.block_lt_of_cell? W0 _ HM.out)).trans HM.out)
      have h32 : (splitT s.data.toList).2.1.length ≤ 32 := splitT_len (s := s.data.toList) rfl
      unfold SplitPost at hsp
      clear hb2 HCK
      revert hsp HRR h32
      generalize splitT s.data.toList = q
      obtain ⟨g, l, e3⟩ := q
      intro HRR hsp h32
      dsimp only at HRR h32 hsp
      have HSP := Lib.hid hsp
      clear hsp
      go_upto_region 10 with (go_at_call 22; refine HSP.out.mono ?_; rintro e3' w3 ⟨lv, rfl, hol, hb3⟩)
      have HB3 := Lib.hid (HB2.out.trans (hb3.mono HB2.out.size))
      have HH3 := Lib.hid (HH2.out.keep hb3)
      obtain ⟨la, lc, rfl⟩ := own_form hol
      have HOL := Lib.hid hol
      clear hb3 HSP HB2 HH2 HB1 HH1 hol
      by_cases he3 : e3 = 0
      · have HR := Lib.hid (HRR.out.trans (if_neg (fun h => h he3)))
        subst he3
        have hcln := fun (wx : World) (hb : Below w3.heap.size w3 wx) => clone_int (HCW.out.keep (HB3.out.trans (hb.mono HB3.out.size))) (by omega)
        have HCLN := Lib.hid hcln
        have HBO : Hid (∀ wx, Below w3.heap.size w3 wx → (fun wx => Below w3.heap.size w3 wx ∧ wx.cell? ⟨w.heap.size, 0, none⟩ = some (.int .i64 c.user) ∧ wx.cell? ⟨w.heap.size, 1, none⟩ = some (.int .i64 c.group) ∧ wx.cell? ⟨w.heap.size, 2, none⟩ = some mv ∧ wx.cell? ⟨w.heap.size, 3, none⟩ = some (.int .i64 c.caps) ∧ wx.cell? ⟨w.heap.size, 4, none⟩ = some (.int .i64 c.level) ∧ wx.cell? ⟨w.heap.size, 5, none⟩ = some (.int .i64 c.kind)) wx) := Lib.hid (fun wx hb => ⟨hb, (HH3.out.keep hb).2 0 _ rfl, (HH3.out.keep hb).2 1 _ rfl, (HH3.out.keep hb).2 2 _ rfl, (HH3.out.keep hb).2 3 _ rfl, (HH3.out.keep hb).2 4 _ rfl, (HH3.out.keep hb).2 5 _ rfl⟩)
        clear hcln
        go_upto_region 12 with fail
        go_region_held3 (fun wx => Below w3.heap.size w3 wx ∧ wx.cell? ⟨w.heap.size, 0, none⟩ = some (.int .i64 c.user) ∧ wx.cell? ⟨w.heap.size, 1, none⟩ = some (.int .i64 c.group) ∧ wx.cell? ⟨w.heap.size, 2, none⟩ = some mv ∧ wx.cell? ⟨w.heap.size, 3, none⟩ = some (.int .i64 c.caps) ∧ wx.cell? ⟨w.heap.size, 4, none⟩ = some (.int .i64 c.level) ∧ wx.cell? ⟨w.heap.size, 5, none⟩ = some (.int .i64 c.kind)) (first | assumption | exact HBO.out _ (Below.refl _ _) | exact HBO.out _ (Below.refl _ _).drew | exact HBO.out _ (Below.alloc (And.left ‹_›) (Below.size (And.left ‹_›)) _) | go_keep)
          (first | (go_at_call 15; refine (HCLN.out _ (‹Below w3.heap.size w3 _ ∧ _›).1).mono ?_; rintro e4 w4 ⟨v4, rfl, ho4, hb4⟩; have hbs := (‹Below w3.heap.size w3 _ ∧ _›).1.size; have hS := HBO.out _ ((‹Below w3.heap.size w3 _ ∧ _›).1.trans (hb4.mono (‹Below w3.heap.size w3 _ ∧ _›).1.size)); obtain ⟨pa, pc, rfl⟩ := own_form ho4))
        have hB4 : Below W0.heap.size W0 w4 := HB3.out.trans (hS.1.mono HB3.out.size)
        have hle4 : W0.heap.size ≤ w4.heap.size := hB4.size
        have hb5 := Go.Joins.below_alloc1 w4 (.cells #[.iface 24 tv, .slice none 0 0, .int .i64 c.user, .int .i64 c.group, mv, .int .i64 c.caps, .int .i64 c.level, .int .i64 c.kind, .slice pa cwd.length pc, .int .i64 0] 56)
        have hh5 := heap_alloc_new w4 (.cells #[.iface 24 tv, .slice none 0 0, .int .i64 c.user, .int .i64 c.group, mv, .int .i64 c.caps, .int .i64 c.level, .int .i64 c.kind, .slice pa cwd.length pc, .int .i64 0] 56)
        have hs5 : w4.heap.size < (w4.alloc (.cells #[.iface 24 tv, .slice none 0 0, .int .i64 c.user, .int .i64 c.group, mv, .int .i64 c.caps, .int .i64 c.level, .int .i64 c.kind, .slice pa cwd.length pc, .int .i64 0] 56)).heap.size := by simp
        revert hb5 hh5 hs5
        generalize w4.alloc (.cells #[.iface 24 tv, .slice none 0 0, .int .i64 c.user, .int .i64 c.group, mv, .int .i64 c.caps, .int .i64 c.level, .int .i64 c.kind, .slice pa cwd.length pc, .int .i64 0] 56) = w5
        intro hb5 hh5 hs5
        have hB5 := hB4.trans (hb5.mono hle4)
        have ce : ∀ j u, ([.iface 24 tv, .slice none 0 0, .int .i64 c.user, .int .i64 c.group, mv, .int .i64 c.caps, .int .i64 c.level, .int .i64 c.kind, .slice pa cwd.length pc, .int .i64 0] : List Value)[j]? = some u → w5.cell? ⟨w4.heap.size, j, none⟩ = some u := fun j u hj => by rw [cell_of_row _ _ _ _ _ _ hh5]; simpa using hj
        have hfz : ∀ j, w5.frozen? ⟨w4.heap.size, j, none⟩ = false := fun j => by simp only [World.frozen?, hh5]; simp
        have hwk : WK W0 w5 w4.heap.size T tv c mv (.slice pa cwd.length pc) (8 - ((8 : Nat) : Int)) := ⟨hs5, ce 0 _ rfl, ce 1 _ rfl, ce 2 _ rfl, ce 3 _ rfl, ce 4 _ rfl, ce 5 _ rfl, ce 6 _ rfl, ce 7 _ rfl, ce 8 _ rfl, ce 9 _ rfl, hfz, hB5, hle4, HTR.out, HMO.out⟩
        have hso : StkO w5 W0.heap.size (.slice pa cwd.length pc) cwd := owns_keep (owns_base ho4 (Nat.le_trans HB3.out.size hbs)) hb5
        have hap : (Value.slice pa cwd.length pc).ownBlock ≠ some w4.heap.size := fun e => by have := (ho4.lt _ e).2; omega
        have hls : ∀ sv : Value, sv.ownBlock = (Value.slice pa cwd.length pc).ownBlock → LsR w5 w4.heap.size sv (.slice la l.length lc) l := fun sv hsv => LsR.own2 HOL.out (hS.1.trans (hb5.mono hS.1.size)) hS.1.size (fun g hg => Nat.le_trans hbs (ho4.lt g (by rw [← hsv]; exact hg)).1)
        have HWK := Lib.hid hwk
        have HSO := Lib.hid hso
        have HAP := Lib.hid hap
        have HLS := Lib.hid hls
        have HB5 := Lib.hid hB5
        clear hS hB4 hle4 hb5 hh5 hs5 hB5 ce hfz hwk hso hap hls hbs hb4 ho4 HBO HCLN
        cases g
        · go_wp2
          go_ret3
          unfold StartPost
          rw [HR.out]
          refine ⟨_, _, rfl, HB5.out, fun _ => ⟨w4.heap.size, .slice pa cwd.length pc, rfl, fun f => ⟨by decide, rfl, HWK.out, HSO.out, HN.out, HAP.out, HLS.out _ rfl, ?_, ?_⟩⟩⟩
          · show l.length + 32 * 8 ≤ 288; omega
          · show cwd.length + l.length + 32 * 8 ≤ _; omega
        · obtain ⟨gs, sc, hv, q0, q1, q2, -⟩ := HSO.out.top HN.out
          simp only [Value.slice.injEq] at hv
          obtain ⟨rfl, -, rfl⟩ := hv
          have hmy : (pc : Int) ≤ 9223372036854775807 := by have : pc ≤ maxLen := q2; unfold maxLen at this; omega
          have i1 : (1 : Int) ≤ (pc : Int) := by omega
          have a8 := HWK.out.c8
          have hfz5 := HWK.out.fz
          have HWK2 := Lib.hid (HWK.out.setStack (.slice (some ⟨gs, 0, none⟩) 1 pc))
          have HSO2 : Hid (StkO (w5.setCell ⟨w4.heap.size, 8, none⟩ (.slice (some ⟨gs, 0, none⟩) 1 pc)) W0.heap.size (.slice (some ⟨gs, 0, none⟩) 1 pc) (cwd.take 1)) := Lib.hid (owns_set (rooted_own HSO.out HN.out) HAP.out)
          have HLS2 := Lib.hid ((HLS.out (.slice (some ⟨gs, 0, none⟩) 1 pc) rfl).grown (grownBy_set w5 w4.heap.size 8 (.slice (some ⟨gs, 0, none⟩) 1 pc)) (.inr (.inl rfl)) (sv' := .slice (some ⟨gs, 0, none⟩) 1 pc) (.inl rfl))
          have HRN := Lib.hid (rooted_ne (g := true) HN.out)
          go_wp2
          go_ret3
          unfold StartPost
          rw [HR.out]
          refine ⟨_, _, rfl, HWK2.out.ba, fun _ => ⟨w4.heap.size, .slice (some ⟨gs, 0, none⟩) 1 pc, rfl, fun f => ⟨by decide, rfl, HWK2.out, HSO2.out, HRN.out.1, HAP.out, HLS2.out, ?_, ?_⟩⟩⟩
          · show l.length + 32 * 8 ≤ 288; omega
          · show (rooted true cwd).length + l.length + 32 * 8 ≤ _; have := HRN.out.2; omega
      · have HR := Lib.hid (HRR.out.trans (if_pos he3))
        have HNE := Lib.hid he3
        have he3' : (e3 != 0) = true := by simp [he3]
        clear he3 HRR
        go_wp2_with fail
        go_ret3
        exact StartPost.err HR.out HNE.out rfl HB3.out
  · have HR := Lib.hid (show startT c cwd s.data.toList = (chkC c, [], []) by rw [startT, if_pos hc])
    have HNE := Lib.hid hc
    have hc' : (chkC c != 0) = true := by simp [hc]
    have HCK := Lib.hid hck
    clear hc hck
    generalize chkC c = e at *
    go_enter Tryd.func13, Tryd.ntmps13
    go_wp2_with (first | (go_at_call 20; refine (mcheck_nil _).mono ?_; rintro e1 w1 ⟨rfl, rfl⟩) | (go_at_call 21; refine HCK.out.mono ?_; rintro e2 w2 ⟨rfl, hb2⟩))
    go_ret3
    exact StartPost.err HR.out HNE.out rfl (HB1.out.trans (hb2.mono HB1.out.size))
/-- how long the stack gets -/
theorem stepT_len {F : Fs} {c : C} {f : Bool} {k : Nat} {st : List Int} {p : ByteArray} {l : List ByteArray} {k' : Nat} {st' : List Int} {more : List ByteArray} (h : stepT F c f k st p l = .on k' st' more) : st'.length + more.length + 32 * k' ≤ st.length + 1 + 32 * k := by
  unfold stepT at h
  split at h
  · cases h
  · split at h
    · cases h; simp
    · split at h
      · cases h; unfold upT; split <;> simp <;> omega
      · split at h
        · cases h
        · split at h
          · cases h
          · split at h
            · cases k with
              | zero => cases h
              | succ k =>
                dsimp only at h
                split at h
                · cases h
                · split at h
                  · cases h
                  · cases h
                    have h1 : (splitT (F.tells (F.look (topT st) p).1).1.data.toList).2.1.length ≤ 32 := splitT_len (s := (F.tells (F.look (topT st) p).1).1.data.toList) rfl
                    have h2 : (rooted (splitT (F.tells (F.look (topT st) p).1).1.data.toList).1 st).length ≤ st.length := by unfold rooted; split <;> simp <;> omega
                    omega
            · split at h
              · cases h; simp
              · cases h
theorem walkT_len (F : Fs) (c : C) (f : Bool) (k : Nat) (st : List Int) (l : List ByteArray) : (walkT F c f k st l).2.1.length ≤ st.length + l.length + 32 * k := by
  match l with
  | [] => rw [walkT_nil]; simp
  | p :: l =>
    rw [walkT_cons]
    cases h : stepT F c f k st p l with
    | err e n => simp; omega
    | on n st' more =>
      dsimp only
      have h1 := stepT_len h
      have hd := stepT_less h
      have := walkT_len F c f n st' (more ++ l)
      simp at this ⊢
      omega
  termination_by (k, l.length)
  decreasing_by
    rcases hd with ⟨rfl, rfl⟩ | ⟨hk, _⟩
    · exact Prod.Lex.right _ (by simp)
    · exact Prod.Lex.left _ _ (by omega)
def WayPost (F : Fs) (c : C) (f : Bool) (cwd : List Int) (s : ByteArray) (w : World) (E : Ending) (w' : World) : Prop :=
  ∃ v, E = .returned (.tuple #[v, .int .i64 (wayT F c f cwd s.data.toList).1]) ∧ Below w.heap.size w w' ∧ StkO w' w.heap.size v (wayT F c f cwd s.data.toList).2
theorem WayPost.err {F : Fs} {c : C} {f : Bool} {cwd : List Int} {s : ByteArray} {w : World} {E : Ending} {w' : World} {e : Int} (h : wayT F c f cwd s.data.toList = (e, [])) (hE : E = .returned (.tuple #[.slice none 0 0, .int .i64 e])) (hb : Below w.heap.size w w') : WayPost F c f cwd s w E w' := by
  unfold WayPost
  rw [h]
  exact ⟨_, hE, hb, World.ownsRow_nil _ _ _ _⟩
set_option maxRecDepth 100000 in
set_option maxHeartbeats 400000 in
theorem way_is {w : World} {T : List Nd} {tv : Value} {c : C} {mv cv : Value} {cwd : List Int} {s : ByteArray} {m : Int} (f : Bool) (ht : TreeS w tv T) (hmo : At (Value.int .i64) 0 w mv c.xs) (hcw : At (Value.int .i64) 0 w cv cwd) (hbig : cwd.length ≤ 17592186044416) (hm : w.cell? ⟨0, 0, none⟩ = some (.int .i64 m)) :
    Calls Tryd.prog 7 #[.iface 24 tv, .slice none 0 0, encC c mv, cv, .string s, .bool f] w (WayPost (fsT T) c f cwd s w) := by
  have hb1 := Go.Joins.below_alloc1 w (.cells #[.int .i64 c.user, .int .i64 c.group, mv, .int .i64 c.caps, .int .i64 c.level, .int .i64 c.kind] 27)
  have hst := start_is hb1 ht hmo hcw (s := s) hbig hm
  obtain ⟨ca, cc, rfl, -⟩ := id hcw
  have hw : wayT (fsT T) c f cwd s.data.toList = wayT (fsT T) c f cwd s.data.toList := rfl
  conv at hw => rhs; unfold wayT
  have hlen : (startT c cwd s.data.toList).2.1.length + (startT c cwd s.data.toList).2.2.length ≤ cwd.length + 32 := by
    unfold startT
    split
    · simp
    · split
      · simp
      · split
        · simp
        · have h1 : (splitT s.data.toList).2.1.length ≤ 32 := splitT_len (s := s.data.toList) rfl
          have h2 : (rooted (splitT s.data.toList).1 cwd).length ≤ cwd.length := by unfold rooted; split <;> simp <;> omega
          show (rooted (splitT s.data.toList).1 cwd).length + (splitT s.data.toList).2.1.length ≤ _
          omega
  unfold StartPost at hst
  simp only [encC] at hst ⊢
  revert hst hw hlen
  generalize startT c cwd s.data.toList = q
  obtain ⟨e, st, l⟩ := q
  intro hst hw hlen
  dsimp only at hst hw hlen
  have HST := Lib.hid hst
  have HW := Lib.hid hw
  have HLN := Lib.hid hlen
  have HM := Lib.hid hm
  have HBG := Lib.hid hbig
  clear hst hw hlen ht hmo hcw hm hbig hb1
  go_enter Tryd.func7, Tryd.ntmps7
  go_upto_region 2 with (go_at_call 13; refine HST.out.mono ?_; rintro e1 w1 ⟨wp, lv, rfl, hb1, hok⟩)
  have HB1 := Lib.hid hb1
  clear hb1 HST
  by_cases he : e = 0
  · subst he
    obtain ⟨b, sv, rfl, hwr⟩ := hok rfl
    have hwk := walk_is (hwr f) HM.out
    have hR := HW.out.trans (if_neg (fun h => h rfl))
    have hwl := walkT_len (fsT T) c f 8 st l
    revert hwk hR hwl
    generalize walkT (fsT T) c f 8 st l = R
    intro hwk hR hwl
    obtain ⟨e2, st2, k2⟩ := R
    have HWK := Lib.hid hwk
    have HR := Lib.hid hR
    have HWL := Lib.hid hwl
    clear hwk hR hwl hok hwr
    go_upto_region 5 with (go_at_call 14; refine HWK.out.mono ?_; rintro e3 w3 ⟨rfl, hb3, hok3⟩)
    try dsimp only at hok3
    have HB3 := Lib.hid hb3
    clear hb3 HWK
    by_cases he2 : e2 = 0
    · subst he2
      obtain ⟨sv3, hc8, hso3, hne3⟩ := hok3 rfl
      have HR2 := Lib.hid (HR.out.trans (if_neg (fun h => h rfl)))
      have hcl := clone_big hso3.at (by have := HWL.out; have := HLN.out; have := HBG.out; simp at *; omega)
      obtain ⟨a3, c3, rfl⟩ := own_form hso3
      have HCL := Lib.hid hcl
      have HLE := Lib.hid HB3.out.size
      clear hcl hso3 hne3 hok3
      go_wp2_with (go_at_call 15; refine HCL.out.mono ?_; rintro e4 w4 ⟨v4, rfl, ho4, hb4⟩)
      go_ret2
      unfold WayPost
      rw [HR2.out]
      exact ⟨v4, rfl, HB3.out.trans (hb4.mono HLE.out), owns_base ho4 HLE.out⟩
    · have HR2 := Lib.hid (HR.out.trans (if_pos he2))
      have he2' : (e2 != 0) = true := by simp [he2]
      clear he2 hok3
      go_wp2_with fail
      go_ret2
      exact WayPost.err HR2.out rfl HB3.out
  · have HR := Lib.hid (HW.out.trans (if_pos he))
    have he' : (e != 0) = true := by simp [he]
    clear he hok HW
    go_wp2_with fail
    go_ret2
    exact WayPost.err HR.out rfl HB1.out
end Go.Proofs.YtjkephmfpoekgaaDoor.PathLaw
