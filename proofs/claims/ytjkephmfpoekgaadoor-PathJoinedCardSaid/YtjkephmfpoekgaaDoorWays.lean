/- The walk of (*walker).walk. -/
import Derived.Test.YtjkephmfpoekgaaDoorLinks
import Derived.Deep.AppendLies
namespace Go.Proofs.YtjkephmfpoekgaaDoor.PathLaw
open Go.RowKit Go.Proofs.YtjkephmfpoekgaaDoor.CredLaw
set_option linter.unusedVariables false
set_option linter.unusedSimpArgs false
/-- pieces in a slice that lies neither in block b nor in the stack's block -/
def LsR (w : World) (b : Nat) (sv v : Value) (l : List ByteArray) : Prop :=
  ∃ (a : Option Addr) (cap : Nat), v = .slice a l.length cap ∧ l.length ≤ cap ∧ cap ≤ maxLen ∧
    (l = [] ∨ ∃ g off, a = some ⟨g, off, none⟩ ∧ g ≠ b ∧ sv.ownBlock ≠ some g ∧ g < w.heap.size ∧ ∀ i, i < l.length → w.cell? ⟨g, off + i, none⟩ = some (.string (l.getD i ⟨#[]⟩)))
theorem LsR.grown {w w' : World} {b : Nat} {sv sv' v : Value} {l : List ByteArray} {row : Option Nat} (h : LsR w b sv v l) (hg : w.grownBy w' row) (hr : row = none ∨ row = some b ∨ row = sv.ownBlock) (hs : sv'.ownBlock = sv.ownBlock ∨ ∃ g, w.heap.size ≤ g ∧ sv'.ownBlock = some g) : LsR w' b sv' v l := by
  obtain ⟨a, cap, hv, h1, h2, h3⟩ := h
  refine ⟨a, cap, hv, h1, h2, ?_⟩
  rcases h3 with h3 | ⟨g, off, ha, hb, hsv, hlt, hc⟩
  · exact .inl h3
  · have hne : some g ≠ row := by
      rcases hr with rfl | rfl | rfl
      · simp
      · simpa using hb
      · exact fun e => hsv e.symm
    refine .inr ⟨g, off, ha, hb, ?_, Nat.lt_of_lt_of_le hlt hg.size, fun i hi => (hg.cell_far ⟨g, off + i, none⟩ hlt hne).trans (hc i hi)⟩
    rcases hs with hs | ⟨g', hg', hs⟩
    · rw [hs]; exact hsv
    · rw [hs]; intro e; have := Option.some.inj e; omega
theorem LsR.tail {w : World} {b : Nat} {sv : Value} {p : ByteArray} {l : List ByteArray} {g off cap : Nat} (h : LsR w b sv (.slice (some ⟨g, off, none⟩) (p :: l).length cap) (p :: l)) : LsR w b sv (.slice (if cap = 1 then some ⟨g, off, none⟩ else some ⟨g, off + 1, none⟩) l.length (cap - 1)) l := by
  obtain ⟨a, cap', hv, h1, h2, h3⟩ := h
  simp only [Value.slice.injEq] at hv
  obtain ⟨rfl, -, rfl⟩ := hv
  simp only [List.length_cons] at h1
  refine ⟨_, cap - 1, rfl, by omega, by omega, ?_⟩
  by_cases hc1 : cap = 1
  · exact .inl (List.eq_nil_of_length_eq_zero (by omega))
  · rw [if_neg hc1]
    rcases h3 with h3 | ⟨g', off', ha, hb, hsv, hlt, hc⟩
    · cases h3
    · simp only [Option.some.injEq, Addr.mk.injEq] at ha
      obtain ⟨rfl, rfl, -⟩ := ha
      refine .inr ⟨g, off + 1, rfl, hb, hsv, hlt, fun i hi => ?_⟩
      have := hc (i + 1) (by simp; omega)
      rw [Nat.add_assoc, Nat.add_comm 1 i]
      rw [this]
      rfl
def lenOf : Value → Nat
  | .slice _ n _ => n
  | _ => 0
def lkOf (w : World) (b : Nat) : Nat := match w.cell? ⟨b, 9, none⟩ with
  | some (.int _ x) => (8 - x).toNat
  | _ => 0
theorem WK.lk {W0 w : World} {b : Nat} {T : List Nd} {tv : Value} {c : C} {mv sv : Value} {k : Nat} (h : WK W0 w b T tv c mv sv (8 - (k : Int))) : lkOf w b = k := by
  unfold lkOf
  rw [h.c9]
  dsimp only
  omega
/-- where a round begins -/
structure WR (W0 wr : World) (b : Nat) (T : List Nd) (tv : Value) (c : C) (mv : Value) (f : Bool) (R : Int × List Int × Nat) (lv : Value) (k : Nat) (st : List Int) (l : List ByteArray) (sv : Value) : Prop where
  k8 : k ≤ 8
  same : R = walkT (fsT T) c f k st l
  wk : WK W0 wr b T tv c mv sv (8 - (k : Int))
  so : StkO wr W0.heap.size sv st
  ne : st ≠ []
  ap : sv.ownBlock ≠ some b
  ls : LsR wr b sv lv l
  sm : l.length + 32 * k ≤ 288
  big : st.length + l.length + 32 * k ≤ 17592186044704
theorem topT_pop {st : List Int} (h : 1 < st.length) : st.dropLast ≠ [] := by
  intro e
  have := congrArg List.length e
  simp at this
  omega
theorem pop_own {w : World} {B : Nat} {a : Option Addr} {cap : Nat} {st : List Int} (h : StkO w B (.slice a st.length cap) st) (h1 : 1 < st.length) : StkO w B (.slice a (st.length - 1) cap) st.dropLast := by
  have := owns_take (k := st.length - 1) h (by omega) (by omega)
  unfold StkO
  rw [List.length_dropLast, List.dropLast_eq_take]
  rw [← List.map_take] at this
  exact this
theorem WK.grow {W0 w w' : World} {b : Nat} {T : List Nd} {tv : Value} {c : C} {mv sv : Value} {lk : Int} {row : Option Nat} (h : WK W0 w b T tv c mv sv lk) (hg : w.grownBy w' row) (hb : row ≠ some b) (hr : ∀ g, row = some g → W0.heap.size ≤ g) : WK W0 w' b T tv c mv sv lk := by
  have k : ∀ {o v}, w.cell? ⟨b, o, none⟩ = some v → w'.cell? ⟨b, o, none⟩ = some v := fun hc => (hg.cell_far ⟨b, _, none⟩ h.lt (Ne.symm hb)).trans hc
  exact ⟨Nat.lt_of_lt_of_le h.lt hg.size, k h.c0, k h.c1, k h.c2, k h.c3, k h.c4, k h.c5, k h.c6, k h.c7, k h.c8, k h.c9, fun j => (hg.frozen_far ⟨b, j, none⟩ h.lt (Ne.symm hb)).trans (h.fz j), h.ba.grown hg h.ba.size hr, h.le, h.tr, h.mo⟩
def app25 := Builtin.append_ #[25, 25] 25
theorem app25_eq : Builtin.append_ #[25, 25] 25 = app25 := rfl
theorem info3 : (Tryd.prog.info? 3).map (fun i => (i.zero, i.size, i.bytes)) = some (some (.int .i64 0), 1, 8) := by kernel_rfl
theorem run_append_none (w : World) (base : Nat) (t ty e : TypeId) (i : TypeInfo) (size c : Nat) (ht : Tryd.prog.underlying t = some (.slice e)) (hi : Tryd.prog.info? e = some i)
    (v : Value) (n : Nat) (xs : List Value) (hown : w.ownsRow base e size v n xs) :
    (Builtin.append_ #[t, t] ty #[v, .slice none 0 c]).run Tryd.prog w = .ok v w := by
  rcases hown.2 with ⟨rfl, rfl⟩ | ⟨g, cap, cur, rfl, _, _, hnc, _⟩
  · simp [Builtin.append_, run_underlying ht, sizeOf, typeInfo, hi, Builtin.lenOf, Builtin.firstCells]
  · simp [Builtin.append_, run_underlying ht, sizeOf, typeInfo, hi, Builtin.lenOf, Builtin.firstCells, hnc, storeCells]
/-- pieces behind owned pieces -/
theorem append_str {w : World} {base : Nat} {v : Value} {ms : List ByteArray} (hown : w.ownsRow base 9 1 v ms.length (ms.map Value.string)) {b : Nat} {sv x : Value} {l : List ByteArray} (hx : LsR w b sv x l) (h63 : ms.length + l.length ≤ 1000000) (hbase : base ≤ w.heap.size) :
    ∃ v' w', (Builtin.append_ #[50, 50] 50 #[v, x]).run Tryd.prog w = .ok v' w' ∧ w'.ownsRow base 9 1 v' (ms ++ l).length ((ms ++ l).map Value.string) ∧ w.grownBy w' v.ownBlock ∧ (v'.ownBlock = v.ownBlock ∨ ∃ g, w.heap.size ≤ g ∧ v'.ownBlock = some g) := by
  obtain ⟨i0, hi9, hz0, hz1, hz2⟩ := info_parts info9
  obtain ⟨a, cap, rfl, hl, hm, hc⟩ := hx
  cases a with
  | none =>
    rcases hc with h | ⟨b, off, h, _⟩
    · subst h
      exact ⟨v, w, run_append_none w base 50 50 9 i0 1 cap Tryd.underlying50 hi9 v _ _ hown, by rw [List.append_nil]; exact hown, ⟨rfl, rfl, rfl, Nat.le_refl _, fun _ _ _ => rfl⟩, .inl rfl⟩
    · cases h
  | some ad =>
    have hcl : ∀ j u, (l.map Value.string)[j]? = some u → w.cell? (ad.add j) = some u := by
      rcases hc with h | ⟨g, off, hab, _, _, hlt, hc⟩
      · intro j u hj
        subst h
        simp at hj
      · simp only [Option.some.injEq] at hab
        subst hab
        intro j u hj
        have hjl : j < l.length := by
          have := (List.getElem?_eq_some_iff.1 hj).1
          simpa using this
        rw [Addr.add_lit, hc j hjl]
        rw [List.getElem?_map, List.getElem?_eq_getElem hjl] at hj
        simp only [Option.map_some, Option.some.injEq] at hj
        rw [← hj]
        simp [List.getD, hjl]
    obtain ⟨v', w', hr, h2, h3, h4⟩ := run_append_fresh (P := Tryd.prog) w base 50 50 9 i0 (.string ⟨#[]⟩) 1 16 Tryd.underlying50 hi9 hz0 hz1 hz2 rfl (by decide) v _ _ hown ad l.length cap (l.map Value.string) (by simp) hcl (fun u hu => by obtain ⟨q, _, rfl⟩ := List.mem_map.1 hu; rfl) (by unfold maxLen; omega) (by omega) hbase
    exact ⟨v', w', hr, by rw [List.length_append, List.map_append]; exact h2, h3, h4⟩
theorem LsR.own {w : World} {B b : Nat} {v sv : Value} {l : List ByteArray} (h : w.ownsRow B 9 1 v l.length (l.map Value.string)) (hb : b < B) (hs : ∀ g, sv.ownBlock = some g → g < B) : LsR w b sv v l := by
  obtain ⟨a, cap, hv, h1, h2, h3⟩ := at_of_owned (f := Value.string) (d := (⟨#[]⟩ : ByteArray)) h
  refine ⟨a, cap, hv, h1, h2, ?_⟩
  rcases h3 with h3 | ⟨g, off, ha, hlt, hc⟩
  · exact .inl h3
  · by_cases hl : l = []
    · exact .inl hl
    · subst hv
      obtain ⟨g', hg', hB, _⟩ := own_block h (List.length_pos_iff.2 hl)
      rw [hg'] at ha
      simp only [Option.some.injEq, Addr.mk.injEq] at ha
      obtain ⟨rfl, rfl, -⟩ := ha
      exact .inr ⟨g', 0, hg', by omega, fun e => by have := hs g' e; omega, hlt, hc⟩
theorem step_err2 {T : List Nd} {c : C} {f : Bool} {k : Nat} {st : List Int} {p : ByteArray} {l : List ByteArray} {n e2 : Int} (h1 : mayT (fsT T) c (topT st) = 0) (hd : isDot p = false) (hu : isUp p = false) (hq : (n, e2) = (fsT T).look (topT st) p) (h2 : e2 ≠ 0) : stepT (fsT T) c f k st p l = .err e2 k := by
  unfold stepT
  rw [if_neg (by rw [h1]; decide), hd, if_neg (by decide), hu, if_neg (by decide), ← hq, if_pos h2]
theorem step_err3 {T : List Nd} {c : C} {f : Bool} {k : Nat} {st : List Int} {p : ByteArray} {l : List ByteArray} {n e3 : Int} {s : S} (h1 : mayT (fsT T) c (topT st) = 0) (hd : isDot p = false) (hu : isUp p = false) (hq : (n, 0) = (fsT T).look (topT st) p) (hq3 : (s, e3) = (fsT T).stat n) (h3 : e3 ≠ 0) : stepT (fsT T) c f k st p l = .err e3 k := by
  unfold stepT
  rw [if_neg (by rw [h1]; decide), hd, if_neg (by decide), hu, if_neg (by decide), ← hq, if_neg (fun h => h rfl)]
  dsimp only
  rw [← hq3, if_pos h3]
theorem step_no {T : List Nd} {c : C} {f : Bool} {k : Nat} {st : List Int} {p : ByteArray} {l : List ByteArray} {n : Int} {s : S} (h1 : mayT (fsT T) c (topT st) = 0) (hd : isDot p = false) (hu : isUp p = false) (hq : (n, 0) = (fsT T).look (topT st) p) (hq3 : (s, 0) = (fsT T).stat n) (hl : isLink f s l = false) : stepT (fsT T) c f k st p l = if inoOk n then .on k (st ++ [n]) [] else .err 1 k := by
  unfold stepT
  rw [if_neg (by rw [h1]; decide), hd, if_neg (by decide), hu, if_neg (by decide), ← hq, if_neg (fun h => h rfl)]
  dsimp only
  rw [← hq3, if_neg (fun h => h rfl)]
  dsimp only
  rw [hl, if_neg (by decide)]
theorem step_yes {T : List Nd} {c : C} {f : Bool} {k : Nat} {st : List Int} {p : ByteArray} {l : List ByteArray} {n : Int} {s : S} (h1 : mayT (fsT T) c (topT st) = 0) (hd : isDot p = false) (hu : isUp p = false) (hq : (n, 0) = (fsT T).look (topT st) p) (hq3 : (s, 0) = (fsT T).stat n) (hl : isLink f s l = true) :
    (linkR T k n ≠ 0 → ∃ j, stepT (fsT T) c f k st p l = .err (linkR T k n) j) ∧ (∀ k', linkR T k n = 0 → k = k' + 1 → stepT (fsT T) c f k st p l = .on k' (rooted (splitT ((fsT T).tells n).1.data.toList).1 st) (splitT ((fsT T).tells n).1.data.toList).2.1) := by
  have key : stepT (fsT T) c f k st p l = match k with
    | 0 => .err 14 0
    | k + 1 =>
      if ((fsT T).tells n).2 ≠ 0 then .err ((fsT T).tells n).2 k
      else if (splitT ((fsT T).tells n).1.data.toList).2.2 ≠ 0 then .err (splitT ((fsT T).tells n).1.data.toList).2.2 k
      else .on k (rooted (splitT ((fsT T).tells n).1.data.toList).1 st) (splitT ((fsT T).tells n).1.data.toList).2.1 := by
    unfold stepT
    rw [if_neg (by rw [h1]; decide), hd, if_neg (by decide), hu, if_neg (by decide), ← hq, if_neg (fun h => h rfl)]
    dsimp only
    rw [← hq3, if_neg (fun h => h rfl)]
    dsimp only
    rw [hl, if_pos rfl]
    cases k <;> rfl
  rw [key]
  cases k with
  | zero => exact ⟨fun _ => ⟨0, rfl⟩, fun k' h => by cases h⟩
  | succ k =>
    unfold linkR
    dsimp only
    by_cases ht : ((fsT T).tells n).2 ≠ 0
    · rw [if_pos ht, if_pos ht]
      exact ⟨fun _ => ⟨_, rfl⟩, fun k' h => absurd h ht⟩
    · rw [if_neg ht, if_neg ht]
      by_cases hs : (splitT ((fsT T).tells n).1.data.toList).2.2 ≠ 0
      · rw [if_pos hs]
        exact ⟨fun _ => ⟨_, rfl⟩, fun k' h => absurd h hs⟩
      · rw [if_neg hs]
        exact ⟨fun h => absurd h hs, fun k' _ hk => by cases hk; rfl⟩
theorem rooted_ne {g : Bool} {st : List Int} (h : st ≠ []) : rooted g st ≠ [] ∧ (rooted g st).length ≤ st.length := by
  cases st with
  | nil => exact absurd rfl h
  | cons x y => cases g <;> simp [rooted]
theorem look_row {w : World} {v : Value} {T : List Nd} (n : Int) (p : ByteArray) (h : TreeS w v T) : Calls Tryd.prog 78 #[v, .int .i64 n, .string p] w fun E w' => E = .returned (.tuple #[.int .i64 ((fsT T).look n p).1, .int .i64 ((fsT T).look n p).2]) ∧ Below w.heap.size w w' := look_is n p h
attribute [local go_sem ↓] load36_eq store36_eq zero36 cellsS_of app25_eq app50_eq
attribute [local go_sem] store36_new load36_new
def WalkPost (W0 : World) (b : Nat) (T : List Nd) (tv : Value) (c : C) (mv : Value) (R : Int × List Int × Nat) (E : Ending) (w' : World) : Prop :=
  E = .returned (.int .i64 R.1) ∧ Below W0.heap.size W0 w' ∧ (R.1 = 0 → ∃ sv, w'.cell? ⟨b, 8, none⟩ = some sv ∧ StkO w' W0.heap.size sv R.2.1 ∧ R.2.1 ≠ [])
set_option maxRecDepth 100000 in
set_option maxHeartbeats 1000000 in
theorem walk_is {W0 w : World} {b : Nat} {T : List Nd} {tv : Value} {c : C} {mv : Value} {f : Bool} {R : Int × List Int × Nat} {lv : Value} {k : Nat} {st : List Int} {l : List ByteArray} {sv : Value} {m : Int} (h : WR W0 w b T tv c mv f R lv k st l sv) (hm : W0.cell? ⟨0, 0, none⟩ = some (.int .i64 m)) : Calls Tryd.prog 14 #[.pointer (some ⟨b, 0, none⟩), lv, .bool f] w (WalkPost W0 b T tv c mv R) := by
  have H := Lib.hid h
  clear h
  go_enter Tryd.func14, Tryd.ntmps14
  go_upto_region 1 with fail
  go_loopw [1] (fun lv wr => ∃ k st l sv, Hid (WR W0 wr b T tv c mv f R lv k st l sv)) (fun lv wr => lkOf wr b * 300 + lenOf lv)
  case atStart => exact ⟨k, st, l, sv, H⟩
  case round =>
    clear H
    obtain ⟨k, st, l, sv, H⟩ := hrel
    obtain ⟨a, cap, rfl, hl1, hl2, hl3⟩ := id H.out.ls
    have hmx : (cap : Int) ≤ 9223372036854775807 := by have : cap ≤ maxLen := hl2; unfold maxLen at this; omega
    cases l with
    | nil =>
      have HS := Lib.hid H.out.same
      clear hl3
      simp only [List.length_nil]
      go_wp2_with fail
      go_ret
      refine ⟨ret_int (by rw [HS.out, walkT_nil]), H.out.wk.ba, fun _ => ⟨sv, H.out.wk.c8, ?_⟩⟩
      rw [HS.out, walkT_nil]
      exact ⟨H.out.so, H.out.ne⟩
    | cons p l =>
      rcases hl3 with hl3 | ⟨g, off, rfl, hgb, hgs, hglt, hcell⟩
      · cases hl3
      · have c0 := hcell 0 (by simp)
        rw [Nat.add_zero] at c0
        have c0 : wr.cell? ⟨g, off, none⟩ = some (.string p) := c0
        have hmay := may_walk H.out.wk H.out.so H.out.ne
        have HMAY := Lib.hid hmay
        have HLT := Lib.hid (H.out.ls).tail
        clear hcell hmay
        simp only [List.length_cons] at hl1 HLT ⊢
        go_upto_region 4 with fail
        revert HLT
        generalize (if cap = 1 then some (⟨g, off, none⟩ : Addr) else some ⟨g, off + 1, none⟩) = ta
        intro HLT
        have hcp : 0 < cap := by omega
        have HH := Lib.hid (show l.length ≤ cap - 1 by omega)
        clear c0 hgb hgs hglt hl1 hl2 hmx
        go_upto_region 5 with (go_at_call 23; refine HMAY.out.mono ?_; rintro e1 w1 ⟨rfl, hb1⟩)
        have HST := Lib.hid (walkT_cons (fsT T) c f k st p l)
        have HW1 := Lib.hid (H.out.wk.keep hb1)
        have HS1 : Hid (StkO w1 W0.heap.size sv st) := Lib.hid (owns_keep H.out.so hb1)
        have HL1 := Lib.hid (HLT.out.grown (gb hb1) (.inl rfl) (sv' := sv) (.inl rfl))
        clear HMAY hb1 HLT
        by_cases he1 : mayT (fsT T) c (topT st) = 0
        · have HE1 := Lib.hid he1
          rw [he1]
          clear he1
          cases hd : isDot p
          · have d4 : (p.toList == [46]) = false := by rw [← hd, isDot, Lib.toList_data]
            have HD := Lib.hid hd
            clear hd
            cases hu : isUp p
            · have d5 : (p.toList == [46, 46]) = false := by rw [← hu, isUp, Lib.toList_data]
              have HU := Lib.hid hu
              clear hu
              obtain ⟨⟨n, e2⟩, hq⟩ : ∃ q, q = (fsT T).look (topT st) p := ⟨_, rfl⟩
              have HQ := Lib.hid hq
              have HTOP := Lib.hid (fun wx (hb : Below w1.heap.size w1 wx) => top_is (HW1.out.keep hb) (show StkO wx W0.heap.size sv st from owns_keep HS1.out hb) H.out.ne)
              have hlk := fun wx (hb : Below w1.heap.size w1 wx) => look_row (topT st) p ((H.out.wk.tr.keep HW1.out.ba).keep (hb.mono (Nat.le_refl _)))
              rw [← hq] at hlk
              have HLK := Lib.hid hlk
              have hms := method_look
              have a0 := HW1.out.c0
              have HBO : Hid (∀ wx, Below w1.heap.size w1 wx → (fun wx => Below w1.heap.size w1 wx ∧ wx.cell? ⟨b, 0, none⟩ = some (.iface 24 tv)) wx) := Lib.hid (fun wx hb => ⟨hb, (HW1.out.keep hb).c0⟩)
              clear hq hlk
              dsimp only at HLK
              go_upto_region 12 with fail
              go_region_held3 (fun wx => Below w1.heap.size w1 wx ∧ wx.cell? ⟨b, 0, none⟩ = some (.iface 24 tv)) (first | assumption | exact HBO.out _ (Below.refl _ _) | exact HBO.out _ (Below.refl _ _).drew | exact HBO.out _ (below_drewN (Below.refl _ _) _) | go_keep)
                (first | (go_at_call 24; refine (HTOP.out _ (‹Below w1.heap.size w1 _ ∧ _›).1).mono ?_; rintro e9 w9 ⟨rfl, k9, rfl⟩; have hS := HBO.out _ (below_drewN (‹Below w1.heap.size w1 _ ∧ _›).1 k9)) | (go_at_call 78; refine (HLK.out _ (‹Below w1.heap.size w1 _ ∧ _›).1).mono ?_; rintro e2 w2 ⟨rfl, hb2⟩; have hS2 := HBO.out _ ((‹Below w1.heap.size w1 _ ∧ _›).1.trans (hb2.mono (‹Below w1.heap.size w1 _ ∧ _›).1.size))))
              -- LOOK
              have HB2 := Lib.hid hS2.1
              have HW2 := Lib.hid (HW1.out.keep hS2.1)
              have HS2 : Hid (StkO w2 W0.heap.size sv st) := Lib.hid (owns_keep HS1.out hS2.1)
              have HL2 := Lib.hid (HL1.out.grown (gb hS2.1) (.inl rfl) (sv' := sv) (.inl rfl))
              clear hS2 hb2 HTOP HLK HBO a0 hms
              by_cases h2 : e2 = 0
              · subst h2
                obtain ⟨⟨s, e3⟩, hq3⟩ : ∃ q, q = (fsT T).stat n := ⟨_, rfl⟩
                have HQ3 := Lib.hid hq3
                have hsta := stat_row n (H.out.wk.tr.keep HW2.out.ba)
                rw [← hq3] at hsta
                dsimp only at hsta
                have HSTA := Lib.hid hsta
                have hms := method_stat
                have a0 := HW2.out.c0
                clear hq3 hsta
                go_upto_region 16 with (go_at_call 10; refine HSTA.out.mono ?_; rintro e3' w3 ⟨rfl, hb3⟩)
                have hb4 := hb3.alloc hb3.size (.cells (cellsS s) 36)
                have k0 : (w3.alloc (.cells (cellsS s) 36)).cell? ⟨w3.heap.size, 0, none⟩ = some (.int .i64 s.kind) := (row_new w3 36 (cellsS s)).cell 0
                revert hb4 k0
                generalize w3.alloc (.cells (cellsS s) 36) = w4
                intro hb4 k0
                have HW4 := Lib.hid (HW2.out.keep hb4)
                have HS4 : Hid (StkO w4 W0.heap.size sv st) := Lib.hid (owns_keep HS2.out hb4)
                have HL4 := Lib.hid (HL2.out.grown (gb hb4) (.inl rfl) (sv' := sv) (.inl rfl))
                clear hb3 hb4 a0 hms HSTA
                by_cases h3 : e3 = 0
                · subst h3
                  cases hk : (s.kind == 3)
                  · have HLK := Lib.hid (show isLink f s l = false by rw [isLink, hk]; rfl)
                    have hst := step_no (f := f) (k := k) (l := l) HE1.out HD.out HU.out HQ.out HQ3.out HLK.out
                    have hdn := downs_nil n w4
                    have a1 := HW4.out.c1
                    cases hi : inoOk n
                    · rw [hi, if_neg (by decide)] at hst
                      rw [show downR n = (0, 1) by rw [downR, hi]; rfl] at hdn
                      have HR := Lib.hid (show R = (1, st, k) by rw [H.out.same, walkT_cons, hst])
                      have HDN := Lib.hid hdn
                      clear hst hdn hi
                      go_wp2_with (go_at_call 26; refine HDN.out.mono ?_; rintro e5 w5 ⟨rfl, hb5⟩)
                      go_ret
                      exact ⟨ret_int (by rw [HR.out]), (HW4.out.keep hb5).ba, fun h => by rw [HR.out] at h; cases h⟩
                    · rw [hi, if_pos rfl] at hst
                      rw [show downR n = (n, 0) by rw [downR, hi]; rfl] at hdn
                      have HR := Lib.hid (show R = walkT (fsT T) c f k (st ++ [n]) l by rw [H.out.same, walkT_cons, hst]; rfl)
                      have HDN := Lib.hid hdn
                      clear hst hdn hi
                      go_upto_region 26 with (go_at_call 26; refine HDN.out.mono ?_; rintro e5 w5 ⟨rfl, hb5⟩)
                      have HW5 := Lib.hid (HW4.out.keep hb5)
                      have HS5 : Hid (StkO w5 W0.heap.size sv st) := Lib.hid (owns_keep HS4.out hb5)
                      have HL5 := Lib.hid (HL4.out.grown (gb hb5) (.inl rfl) (sv' := sv) (.inl rfl))
                      clear hb5 HDN a1
                      have a8 := HW5.out.c8
                      have hbA := Go.Joins.below_alloc1 w5 (.cells #[.int .i64 n] 3)
                      obtain ⟨i0, hi3, hz0, hz1, hz2⟩ := info_parts info3
                      have hbg := H.out.big
                      simp only [List.length_cons] at hbg
                      obtain ⟨v6, w6, hap, own6, grow6, fresh6⟩ := run_append_wide (P := Tryd.prog) (w5.alloc (.cells #[.int .i64 n] 3)) W0.heap.size 25 25 3 i0 (.int .i64 0) 1 8 Tryd.underlying25 hi3 hz0 hz1 hz2 rfl (by decide) sv _ _ (owns_keep HS5.out hbA) ⟨w5.heap.size, 0, none⟩ 1 1 [.int .i64 n] rfl (cells_new w5 [.int .i64 n] 3) (by simp [Value.oneCell']) (by unfold maxLen; omega) (by omega) (by have := HW5.out.ba.size; simp; omega)
                      rw [app25_eq] at hap
                      obtain ⟨a6, c6, rfl⟩ := own_form own6
                      have hw6 := (HW5.out.keep hbA).grow grow6 H.out.ap (fun g hg => (HS5.out.lt g hg).1)
                      have hap6 : (Value.slice a6 (st.length + 1) c6).ownBlock ≠ some b := by
                        rcases fresh6 with q | ⟨g', hg', q⟩
                        · rw [q]; exact H.out.ap
                        · rw [q]; intro e; have := Option.some.inj e; have := HW5.out.lt; simp at hg'; omega
                      have hs6 : StkO (w6.setCell ⟨b, 8, none⟩ (.slice a6 (st.length + 1) c6)) W0.heap.size (.slice a6 (st.length + 1) c6) (st ++ [n]) := by
                        refine owns_set ?_ hap6
                        rw [List.length_append, List.map_append]
                        exact own6
                      have hl6 := ((HL5.out.grown (gb hbA) (.inl rfl) (sv' := sv) (.inl rfl)).grown grow6 (.inr (.inr rfl)) fresh6).grown (grownBy_set w6 b 8 (.slice a6 (st.length + 1) c6)) (.inr (.inl rfl)) (sv' := .slice a6 (st.length + 1) c6) (.inl rfl)
                      have a86 := hw6.c8
                      have hfz6 := hw6.fz
                      have HW6 := Lib.hid (hw6.setStack (.slice a6 (st.length + 1) c6))
                      have HS6 := Lib.hid hs6
                      have HL6 := Lib.hid hl6
                      have HA6 := Lib.hid hap6
                      have HBG := Lib.hid hbg
                      clear hbA own6 grow6 fresh6 hw6 hap6 hs6 hl6 hz0 hz1 hz2 hi3 hbg
                      go_wp2_with fail
                      go_roundw
                      case rel => exact ⟨k, st ++ [n], l, _, Lib.hid ⟨H.out.k8, HR.out, HW6.out, HS6.out, by simp, HA6.out, HL6.out, by have := H.out.sm; simp at this; omega, by have := HBG.out; simp; omega⟩⟩
                      case measure => rw [HW6.out.lk, H.out.wk.lk]; simp [lenOf]
                  · cases f
                    · by_cases hl : l = []
                      · have HLK := Lib.hid (show isLink false s l = false by rw [isLink, hk, hl]; rfl)
                        have i0 : ¬ ((0 : Int) < (l.length : Int)) := by rw [hl]; decide
                        clear hl
                        have hst := step_no (f := false) (k := k) (l := l) HE1.out HD.out HU.out HQ.out HQ3.out HLK.out
                        have hdn := downs_nil n w4
                        have a1 := HW4.out.c1
                        cases hi : inoOk n
                        · rw [hi, if_neg (by decide)] at hst
                          rw [show downR n = (0, 1) by rw [downR, hi]; rfl] at hdn
                          have HR := Lib.hid (show R = (1, st, k) by rw [H.out.same, walkT_cons, hst])
                          have HDN := Lib.hid hdn
                          clear hst hdn hi
                          go_wp2_with (go_at_call 26; refine HDN.out.mono ?_; rintro e5 w5 ⟨rfl, hb5⟩)
                          go_ret
                          exact ⟨ret_int (by rw [HR.out]), (HW4.out.keep hb5).ba, fun h => by rw [HR.out] at h; cases h⟩
                        · rw [hi, if_pos rfl] at hst
                          rw [show downR n = (n, 0) by rw [downR, hi]; rfl] at hdn
                          have HR := Lib.hid (show R = walkT (fsT T) c false k (st ++ [n]) l by rw [H.out.same, walkT_cons, hst]; rfl)
                          have HDN := Lib.hid hdn
                          clear hst hdn hi
                          go_upto_region 26 with (go_at_call 26; refine HDN.out.mono ?_; rintro e5 w5 ⟨rfl, hb5⟩)
                          have HW5 := Lib.hid (HW4.out.keep hb5)
                          have HS5 : Hid (StkO w5 W0.heap.size sv st) := Lib.hid (owns_keep HS4.out hb5)
                          have HL5 := Lib.hid (HL4.out.grown (gb hb5) (.inl rfl) (sv' := sv) (.inl rfl))
                          clear hb5 HDN a1
                          have a8 := HW5.out.c8
                          have hbA := Go.Joins.below_alloc1 w5 (.cells #[.int .i64 n] 3)
                          obtain ⟨i0, hi3, hz0, hz1, hz2⟩ := info_parts info3
                          have hbg := H.out.big
                          simp only [List.length_cons] at hbg
                          obtain ⟨v6, w6, hap, own6, grow6, fresh6⟩ := run_append_wide (P := Tryd.prog) (w5.alloc (.cells #[.int .i64 n] 3)) W0.heap.size 25 25 3 i0 (.int .i64 0) 1 8 Tryd.underlying25 hi3 hz0 hz1 hz2 rfl (by decide) sv _ _ (owns_keep HS5.out hbA) ⟨w5.heap.size, 0, none⟩ 1 1 [.int .i64 n] rfl (cells_new w5 [.int .i64 n] 3) (by simp [Value.oneCell']) (by unfold maxLen; omega) (by omega) (by have := HW5.out.ba.size; simp; omega)
                          rw [app25_eq] at hap
                          obtain ⟨a6, c6, rfl⟩ := own_form own6
                          have hw6 := (HW5.out.keep hbA).grow grow6 H.out.ap (fun g hg => (HS5.out.lt g hg).1)
                          have hap6 : (Value.slice a6 (st.length + 1) c6).ownBlock ≠ some b := by
                            rcases fresh6 with q | ⟨g', hg', q⟩
                            · rw [q]; exact H.out.ap
                            · rw [q]; intro e; have := Option.some.inj e; have := HW5.out.lt; simp at hg'; omega
                          have hs6 : StkO (w6.setCell ⟨b, 8, none⟩ (.slice a6 (st.length + 1) c6)) W0.heap.size (.slice a6 (st.length + 1) c6) (st ++ [n]) := by
                            refine owns_set ?_ hap6
                            rw [List.length_append, List.map_append]
                            exact own6
                          have hl6 := ((HL5.out.grown (gb hbA) (.inl rfl) (sv' := sv) (.inl rfl)).grown grow6 (.inr (.inr rfl)) fresh6).grown (grownBy_set w6 b 8 (.slice a6 (st.length + 1) c6)) (.inr (.inl rfl)) (sv' := .slice a6 (st.length + 1) c6) (.inl rfl)
                          have a86 := hw6.c8
                          have hfz6 := hw6.fz
                          have HW6 := Lib.hid (hw6.setStack (.slice a6 (st.length + 1) c6))
                          have HS6 := Lib.hid hs6
                          have HL6 := Lib.hid hl6
                          have HA6 := Lib.hid hap6
                          have HBG := Lib.hid hbg
                          clear hbA own6 grow6 fresh6 hw6 hap6 hs6 hl6 hz0 hz1 hz2 hi3 hbg
                          go_wp2_with fail
                          go_roundw
                          case rel => exact ⟨k, st ++ [n], l, _, Lib.hid ⟨H.out.k8, HR.out, HW6.out, HS6.out, by simp, HA6.out, HL6.out, by have := H.out.sm; simp at this; omega, by have := HBG.out; simp; omega⟩⟩
                          case measure => rw [HW6.out.lk, H.out.wk.lk]; simp [lenOf]
                      · have HLK := Lib.hid (show isLink false s l = true by rw [isLink, hk]; cases l with
                          | nil => exact absurd rfl hl
                          | cons x y => rfl)
                        have i0 : (0 : Int) < (l.length : Int) := by have := List.length_pos_iff.2 hl; omega
                        have i1 : 0 < l.length := List.length_pos_iff.2 hl
                        clear hl
                        have hsy := step_yes (f := false) (k := k) (l := l) HE1.out HD.out HU.out HQ.out HQ3.out HLK.out
                        have HSY := Lib.hid hsy
                        have hlw := link_walk n HW4.out H.out.k8 HS4.out H.out.ne H.out.ap hm
                        have HLW := Lib.hid hlw
                        clear hsy hlw
                        go_upto_region 20 with (go_at_call 25; refine HLW.out.mono ?_; rintro e5 w5 ⟨v5, rfl, hg5, hok⟩)
                        have HSM := Lib.hid H.out.sm
                        have HBG := Lib.hid H.out.big
                        have HK := Lib.hid H.out.wk.lk
                        by_cases h5 : linkR T k n = 0
                        · obtain ⟨k', sv', hkk, hsb, hw5, hs5, ho5⟩ := hok h5
                          have hst := HSY.out.2 k' h5 hkk
                          have HR := Lib.hid (show R = walkT (fsT T) c false k' (rooted (splitT ((fsT T).tells n).1.data.toList).1 st) ((splitT ((fsT T).tells n).1.data.toList).2.1 ++ l) by rw [H.out.same, walkT_cons, hst])
                          have hm32 : (splitT ((fsT T).tells n).1.data.toList).2.1.length ≤ 32 := splitT_len (s := ((fsT T).tells n).1.data.toList) rfl
                          have hrn := rooted_ne (g := (splitT ((fsT T).tells n).1.data.toList).1) H.out.ne
                          have HKK := Lib.hid hkk
                          have HK8 := Lib.hid H.out.k8
                          rw [h5]
                          clear h5 hst hok HSY HLW hkk
                          revert hm32 hrn hs5 ho5 HR
                          generalize splitT ((fsT T).tells n).1.data.toList = q
                          intro hs5 ho5 HR hm32 hrn
                          obtain ⟨g5, ms, e6⟩ := q
                          dsimp only at hm32 hrn hs5 ho5 HR
                          have hL5 := HL4.out.grown hg5 (.inr (.inl rfl)) (sv' := sv') (.inl hsb)
                          have hll : l.length ≤ 288 := by have := HSM.out; simp at this; omega
                          obtain ⟨v6, w6, hap, own6, grow6, -⟩ := append_str ho5 hL5 (by omega) hg5.size
                          rw [app50_eq] at hap
                          obtain ⟨a6, c6, rfl⟩ := own_form own6
                          obtain ⟨a5, c5, rfl⟩ := own_form ho5
                          have hvb := far_row ho5 HW4.out.lt
                          have hsl : ∀ g, sv'.ownBlock = some g → g < w4.heap.size := fun g hg => (HS4.out.lt g (by rw [← hsb]; exact hg)).2
                          have hw6 := hw5.grow grow6 hvb (fun g hg => Nat.le_trans HW4.out.ba.size (ho5.lt g hg).1)
                          have hs6 : StkO w6 W0.heap.size sv' (rooted g5 st) := hs5.kept grow6 (by
                            cases hq : sv'.ownBlock with
                            | none => exact .inl rfl
                            | some g => exact .inr (fun e => by have := hsl g hq; have := (ho5.lt g e.symm).1; omega))
                          have hl6 := LsR.own own6 HW4.out.lt hsl
                          have HW6 := Lib.hid hw6
                          have HS6 := Lib.hid hs6
                          have HL6 := Lib.hid hl6
                          have HRN := Lib.hid hrn
                          have HA6 := Lib.hid (show sv'.ownBlock ≠ some b by rw [hsb]; exact H.out.ap)
                          have HM := Lib.hid hm32
                          clear own6 grow6 hw6 hs6 hl6 hw5 hs5 ho5 hL5 hvb hsl hrn hsb hg5
                          go_wp2_with fail
                          go_roundw
                          case rel => exact ⟨k', rooted g5 st, ms ++ l, sv', Lib.hid ⟨by have := HK8.out; have := HKK.out; omega, HR.out, HW6.out, HS6.out, HRN.out.1, HA6.out, by have := HL6.out; rw [List.length_append] at this; exact this, by have := HSM.out; have := HKK.out; have := HM.out; simp at *; omega, by have := HBG.out; have := HKK.out; have := HM.out; have := HRN.out.2; simp at *; omega⟩⟩
                          case measure => rw [HW6.out.lk, H.out.wk.lk]; have := HKK.out; have := HM.out; have := hll; simp [lenOf]; omega
                        · obtain ⟨j, hst⟩ := HSY.out.1 h5
                          have HR := Lib.hid (show R = (linkR T k n, st, j) by rw [H.out.same, walkT_cons, hst])
                          have HNE := Lib.hid h5
                          have h5' : (linkR T k n != 0) = true := by simp [h5]
                          have HBF := Lib.hid (HW4.out.ba.grown hg5 HW4.out.ba.size (fun g hg => by cases hg; exact HW4.out.le))
                          clear h5 hst hok hg5 HSY HLW
                          generalize linkR T k n = e5 at *
                          go_wp2_with fail
                          go_ret
                          exact ⟨ret_int (by rw [HR.out]), HBF.out, fun h => absurd (by rw [HR.out] at h; exact h) HNE.out⟩
                    · have HLK := Lib.hid (show isLink true s l = true by rw [isLink, hk]; rfl)
                      have hsy := step_yes (f := true) (k := k) (l := l) HE1.out HD.out HU.out HQ.out HQ3.out HLK.out
                      have HSY := Lib.hid hsy
                      have hlw := link_walk n HW4.out H.out.k8 HS4.out H.out.ne H.out.ap hm
                      have HLW := Lib.hid hlw
                      clear hsy hlw
                      go_upto_region 20 with (go_at_call 25; refine HLW.out.mono ?_; rintro e5 w5 ⟨v5, rfl, hg5, hok⟩)
                      have HSM := Lib.hid H.out.sm
                      have HBG := Lib.hid H.out.big
                      have HK := Lib.hid H.out.wk.lk
                      by_cases h5 : linkR T k n = 0
                      · obtain ⟨k', sv', hkk, hsb, hw5, hs5, ho5⟩ := hok h5
                        have hst := HSY.out.2 k' h5 hkk
                        have HR := Lib.hid (show R = walkT (fsT T) c true k' (rooted (splitT ((fsT T).tells n).1.data.toList).1 st) ((splitT ((fsT T).tells n).1.data.toList).2.1 ++ l) by rw [H.out.same, walkT_cons, hst])
                        have hm32 : (splitT ((fsT T).tells n).1.data.toList).2.1.length ≤ 32 := splitT_len (s := ((fsT T).tells n).1.data.toList) rfl
                        have hrn := rooted_ne (g := (splitT ((fsT T).tells n).1.data.toList).1) H.out.ne
                        have HKK := Lib.hid hkk
                        have HK8 := Lib.hid H.out.k8
                        rw [h5]
                        clear h5 hst hok HSY HLW hkk
                        revert hm32 hrn hs5 ho5 HR
                        generalize splitT ((fsT T).tells n).1.data.toList = q
                        intro hs5 ho5 HR hm32 hrn
                        obtain ⟨g5, ms, e6⟩ := q
                        dsimp only at hm32 hrn hs5 ho5 HR
                        have hL5 := HL4.out.grown hg5 (.inr (.inl rfl)) (sv' := sv') (.inl hsb)
                        have hll : l.length ≤ 288 := by have := HSM.out; simp at this; omega
                        obtain ⟨v6, w6, hap, own6, grow6, -⟩ := append_str ho5 hL5 (by omega) hg5.size
                        rw [app50_eq] at hap
                        obtain ⟨a6, c6, rfl⟩ := own_form own6
                        obtain ⟨a5, c5, rfl⟩ := own_form ho5
                        have hvb := far_row ho5 HW4.out.lt
                        have hsl : ∀ g, sv'.ownBlock = some g → g < w4.heap.size := fun g hg => (HS4.out.lt g (by rw [← hsb]; exact hg)).2
                        have hw6 := hw5.grow grow6 hvb (fun g hg => Nat.le_trans HW4.out.ba.size (ho5.lt g hg).1)
                        have hs6 : StkO w6 W0.heap.size sv' (rooted g5 st) := hs5.kept grow6 (by
                          cases hq : sv'.ownBlock with
                          | none => exact .inl rfl
                          | some g => exact .inr (fun e => by have := hsl g hq; have := (ho5.lt g e.symm).1; omega))
                        have hl6 := LsR.own own6 HW4.out.lt hsl
                        have HW6 := Lib.hid hw6
                        have HS6 := Lib.hid hs6
                        have HL6 := Lib.hid hl6
                        have HRN := Lib.hid hrn
                        have HA6 := Lib.hid (show sv'.ownBlock ≠ some b by rw [hsb]; exact H.out.ap)
                        have HM := Lib.hid hm32
                        clear own6 grow6 hw6 hs6 hl6 hw5 hs5 ho5 hL5 hvb hsl hrn hsb hg5
                        go_wp2_with fail
                        go_roundw
                        case rel => exact ⟨k', rooted g5 st, ms ++ l, sv', Lib.hid ⟨by have := HK8.out; have := HKK.out; omega, HR.out, HW6.out, HS6.out, HRN.out.1, HA6.out, by have := HL6.out; rw [List.length_append] at this; exact this, by have := HSM.out; have := HKK.out; have := HM.out; simp at *; omega, by have := HBG.out; have := HKK.out; have := HM.out; have := HRN.out.2; simp at *; omega⟩⟩
                        case measure => rw [HW6.out.lk, H.out.wk.lk]; have := HKK.out; have := HM.out; have := hll; simp [lenOf]; omega
                      · obtain ⟨j, hst⟩ := HSY.out.1 h5
                        have HR := Lib.hid (show R = (linkR T k n, st, j) by rw [H.out.same, walkT_cons, hst])
                        have HNE := Lib.hid h5
                        have h5' : (linkR T k n != 0) = true := by simp [h5]
                        have HBF := Lib.hid (HW4.out.ba.grown hg5 HW4.out.ba.size (fun g hg => by cases hg; exact HW4.out.le))
                        clear h5 hst hok hg5 HSY HLW
                        generalize linkR T k n = e5 at *
                        go_wp2_with fail
                        go_ret
                        exact ⟨ret_int (by rw [HR.out]), HBF.out, fun h => absurd (by rw [HR.out] at h; exact h) HNE.out⟩
                · have hst := step_err3 (f := f) (k := k) (l := l) HE1.out HD.out HU.out HQ.out HQ3.out h3
                  have HR := Lib.hid (show R = (e3, st, k) by rw [H.out.same, walkT_cons, hst])
                  have HNE := Lib.hid h3
                  have h3' : (e3 != 0) = true := by simp [h3]
                  clear h3 hst
                  go_wp2_with fail
                  go_ret
                  exact ⟨ret_int (by rw [HR.out]), HW4.out.ba, fun h => absurd (by rw [HR.out] at h; exact h) HNE.out⟩
              · have hst := step_err2 (f := f) (k := k) (l := l) HE1.out HD.out HU.out HQ.out h2
                have HR := Lib.hid (show R = (e2, st, k) by rw [H.out.same, walkT_cons, hst])
                have HNE := Lib.hid h2
                have h2' : (e2 != 0) = true := by simp [h2]
                clear h2 hst
                go_wp2_with fail
                go_ret
                exact ⟨ret_int (by rw [HR.out]), HW2.out.ba, fun h => absurd (by rw [HR.out] at h; exact h) HNE.out⟩
              -- END LOOK
            · have d5 : (p.toList == [46, 46]) = true := by rw [← hu, isUp, Lib.toList_data]
              have hst : stepT (fsT T) c f k st p l = .on k (upT st) [] := by unfold stepT; rw [if_neg (by rw [HE1.out]; decide), HD.out, if_neg (by decide), if_pos hu]
              have HR := Lib.hid (show R = walkT (fsT T) c f k (upT st) l by rw [H.out.same, walkT_cons, hst]; rfl)
              obtain ⟨gs, sc, rfl, q0, q1, q2, -⟩ := HS1.out.top H.out.ne
              have hmx : (sc : Int) ≤ 9223372036854775807 := by have : sc ≤ maxLen := q2; unfold maxLen at this; omega
              have a8 := HW1.out.c8
              have hfz := HW1.out.fz
              clear hu hst
              by_cases h1 : 1 < st.length
              · have i1 : (1 : Int) < (st.length : Int) := by omega
                have u0 : IntKind.i64.wrap ((st.length : Int) - 1) = ((st.length - 1 : Nat) : Int) := by rw [IntWalk.i64_in _ (by omega)]; omega
                have u1 : ((st.length - 1 : Nat) : Int).toNat = st.length - 1 := by omega
                have u2 : (0 : Int) ≤ ((st.length - 1 : Nat) : Int) := by omega
                have u3 : ((st.length - 1 : Nat) : Int) ≤ (sc : Int) := by omega
                have u4 : st.length - 1 ≤ sc := by omega
                have HU1 := Lib.hid (show upT st = st.dropLast from if_pos h1)
                have HP := Lib.hid (pop_own HS1.out h1)
                have HNP := Lib.hid (topT_pop h1)
                have HLn := Lib.hid (show st.dropLast.length + 1 = st.length by simp; omega)
                clear h1
                go_upto_region 11 with fail
                go_region
                have hw2 := (HW1.out.setStack (.slice (some ⟨gs, 0, none⟩) (st.length - 1) sc)).keep (Below.refl _ _).drew
                have hs2 : StkO ((w1.setCell ⟨b, 8, none⟩ (.slice (some ⟨gs, 0, none⟩) (st.length - 1) sc)).drew) W0.heap.size (.slice (some ⟨gs, 0, none⟩) (st.length - 1) sc) st.dropLast := owns_keep (owns_set HP.out H.out.ap) (Below.refl _ _).drew
                have hl2 := (HL1.out.grown (grownBy_set w1 b 8 (.slice (some ⟨gs, 0, none⟩) (st.length - 1) sc)) (.inr (.inl rfl)) (sv' := .slice (some ⟨gs, 0, none⟩) (st.length - 1) sc) (.inl rfl)).grown (gb (Below.refl _ _).drew) (.inl rfl) (sv' := .slice (some ⟨gs, 0, none⟩) (st.length - 1) sc) (.inl rfl)
                have HW2 := Lib.hid hw2
                have HS2 := Lib.hid hs2
                have HL2 := Lib.hid hl2
                clear hw2 hs2 hl2
                go_wp2_with fail
                go_roundw
                case rel => exact ⟨k, st.dropLast, l, _, Lib.hid ⟨H.out.k8, by rw [HR.out, HU1.out], HW2.out, HS2.out, HNP.out, H.out.ap, HL2.out, by have := H.out.sm; simp at this; omega, by have := H.out.big; have := HLn.out; simp at *; omega⟩⟩
                case measure => rw [HW2.out.lk, H.out.wk.lk]; simp [lenOf]
              · have i1 : ¬ ((1 : Int) < (st.length : Int)) := by omega
                have HU1 := Lib.hid (show upT st = st from if_neg h1)
                clear h1
                go_wp2_with fail
                go_roundw
                case rel => exact ⟨k, st, l, _, Lib.hid ⟨H.out.k8, by rw [HR.out, HU1.out], HW1.out, HS1.out, H.out.ne, H.out.ap, HL1.out, by have := H.out.sm; simp at this; omega, by have := H.out.big; simp at this; omega⟩⟩
                case measure => rw [HW1.out.lk, H.out.wk.lk]; simp [lenOf]
          · have d4 : (p.toList == [46]) = true := by rw [← hd, isDot, Lib.toList_data]
            have hst : stepT (fsT T) c f k st p l = .on k st [] := by unfold stepT; rw [if_neg (by rw [HE1.out]; decide), if_pos hd]
            have HR := Lib.hid (show R = walkT (fsT T) c f k st l by rw [H.out.same, walkT_cons, hst]; rfl)
            clear hd hst
            go_wp2_with fail
            go_roundw
            case rel => exact ⟨k, st, l, sv, Lib.hid ⟨H.out.k8, HR.out, HW1.out, HS1.out, H.out.ne, H.out.ap, HL1.out, by have := H.out.sm; simp at this; omega, by have := H.out.big; simp at this; omega⟩⟩
            case measure => rw [HW1.out.lk, H.out.wk.lk]; simp [lenOf]
        · have he1' : (mayT (fsT T) c (topT st) != 0) = true := by simp [he1]
          have hst : stepT (fsT T) c f k st p l = .err (mayT (fsT T) c (topT st)) k := step_may he1
          have HR := Lib.hid (show R = (mayT (fsT T) c (topT st), st, k) by rw [H.out.same, walkT_cons, hst])
          have HNE := Lib.hid he1
          clear hst he1
          generalize mayT (fsT T) c (topT st) = e1 at *
          go_wp2_with fail
          go_ret
          exact ⟨ret_int (by rw [HR.out]), HW1.out.ba, fun h => absurd (by rw [HR.out] at h; exact h) HNE.out⟩
end Go.Proofs.YtjkephmfpoekgaaDoor.PathLaw
