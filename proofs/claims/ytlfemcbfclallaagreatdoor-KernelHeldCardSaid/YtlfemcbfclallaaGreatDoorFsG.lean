/- The walks of fs: node, set, fresh, own. The walks of fs: a sector, a block; clone of numbers. -/
import Derived.Test.YtlfemcbfclallaaGreatDoorFsE
import Derived.Test.YtlfemcbfclallaaGreatDoorForest
namespace Go.Proofs.YtlfemcbfclallaaGreatDoor
open Go.RowKit Go.Maps
set_option linter.unusedVariables false
set_option linter.unusedSimpArgs false
section
variable {w0 w : World} {c : FC} {x : FM} {t : Nat} {y : TM}
attribute [local go_sem ↓] ld_ino st_ino2
set_option maxRecDepth 100000 in
set_option maxHeartbeats 400000 in
theorem node_is (h : TX w0 w c x t y) {i : Nat} (hi : i < 32) {n : Int} (hn : n = i + 1) : Calls Tryz.prog 118 #[.pointer (some ⟨t, 0, none⟩), .int .i64 n] w fun e w' => e = .returned (.agg (ndA (y.nd i))) ∧ Below w.heap.size w w' := by
  obtain ⟨C, hC⟩ := h.nb
  have hal := Go.Joins.below_alloc1 w (.cells (ndA nd0) 120)
  have c3 := (h.keep hal).c3
  have l1 := (hC.keep hal).ld hi
  have hr := row_new w 120 (ndA nd0)
  have h1 := ip_one (h.ps i hi)
  have s1 := hr.st0 (cs := ndA (y.nd i)) rfl (by rw [ndA_size]; kernel_rfl) (ndA_one _ h1)
  have l3 := (hr.setRow (ndA (y.nd i))).ldV Tryz.underlying120 rfl (by rw [ndA_size]; kernel_rfl)
  have HB := Lib.hid (hal.trans ((Upd.setRow (w.alloc (.cells (ndA nd0) 120)) (b := w.heap.size) (ndA (y.nd i)) (S := fun k => k = w.heap.size) rfl).toBelow hal.size (fun k hk => by show ¬ k = w.heap.size; omega)))
  have y1 : IntKind.i64.wrap (n - 1) = i := by rw [IntWalk.i64_in _ (by omega)]; omega
  have i32 : (i : Int) < 32 := by omega
  have i0 : (0 : Int) ≤ i := by omega
  have hz : ndA nd0 = #[.int .i64 0, .int .i64 0, .int .i64 0, .int .i64 0, .int .i64 0, .int .i64 0, .int .i64 0, .slice none 0 0] := rfl
  rw [hz] at c3 l1 s1 l3 HB
  clear h hC hal hr h1 hz hn
  generalize ndA (y.nd i) = X at *
  go_enter Tryz.func118, Tryz.ntmps118
  go_wp2_with fail
  exact bodyPost_ret (v := .agg X) (by rw [results_cell1 rfl]; simp [asAddr, Result.andThen, l3]) rfl ⟨rfl, HB.out⟩
set_option maxRecDepth 100000 in
set_option maxHeartbeats 400000 in
theorem set_is (h : TX w0 w c x t y) {i : Nat} (hi : i < 32) {n : Int} (hn : n = i + 1) {v : Nd} (hv : Ip (fun j => fMut c x j ∨ tMut t y j ∨ (¬ x.bs j ∧ j < w0.heap.size)) w v) (hk : y.nb < 1000) : Calls Tryz.prog 119 #[.pointer (some ⟨t, 0, none⟩), .int .i64 n, .agg (ndA v)] w fun e w' => e = .returned (.tuple #[]) ∧ TX w0 w' c x t { y with nd := ups1 y.nd i v, dy := fun j => if j = n then some () else y.dy j, nb := y.nb + 1 } ∧ Upd (tMut t y) w w' := by
  obtain ⟨C, hC⟩ := h.nb
  have hal := (Go.Joins.below_alloc1 w (.cells (ndA v) 120)).drew
  have hX := h.keep hal
  have hCX := hC.keep hal
  have hvX := hv.upd (S := fun _ => False) (Upd.below hal) (fun _ _ e => e)
  have c3 := hX.c3
  have hr := (row_new w 120 (ndA v)).drew
  have l1 := hr.ld0 Tryz.underlying120 rfl (by rw [ndA_size]; kernel_rfl)
  obtain ⟨s1, -⟩ := hCX.st hi (ip_one hv)
  have hY := hX.node hCX hi hvX
  have c4 := hY.c4
  obtain ⟨w3, hp, hm, hg⟩ := hY.db.put (T := 243) Tryz.underlying243 (k := n) (WalkArith.wf_i64 (by omega)) (by show y.nb < maxLen; unfold maxLen; omega) ()
  change (Instr.mapUpdate 243 (.map (some y.db)) (.int .i64 n) (.bool true)).run Tryz.prog _ = _ at hp
  have hZ := hY.dirty hg hm
  have HZ := Lib.hid hZ
  have HU := Lib.hid (((Upd.below (S := tMut t y) hal).trans (Upd.setRow _ _ (.inr (.inl rfl)))).trans (Upd.grown hg (.inr (.inr (.inl rfl)))))
  have y1 : IntKind.i64.wrap (n - 1) = i := by rw [IntWalk.i64_in _ (by omega)]; omega
  have i32 : (i : Int) < 32 := by omega
  have i0 : (0 : Int) ≤ i := by omega
  obtain ⟨X, hX'⟩ : ∃ X, X = ndA v := ⟨_, rfl⟩
  rw [← hX'] at l1 s1 c3 c4 hp ⊢
  clear h hC hX hCX hv hvX hr hY hm hg hZ hn hX' hal
  go_enter Tryz.func119, Tryz.ntmps119
  go_upto_region 1 with fail
  generalize w.alloc (.cells X 120) = w1 at *
  go_still_tail 8, (by kernel_rfl)
  change wpList _ _ _ _ _ w1.drew
  generalize w1.drew = w2 at *
  clear l1 c3
  go_wp2_with fail
  exact bodyPost_end (results_none rfl _ _ _) rfl ⟨rfl, HZ.out, HU.out⟩
def gOn (G : Nat → Nat) (n : Nat) : Nat → Nat := ups G 16 32 (bitOn (hasT G) n)
theorem gOn_lone {G : Nat → Nat} (h : Lone1 G) (n : Nat) : Lone1 (gOn G n) := by
  have hb := bitOn_lt (h := hasT G) (fun j => h.lt _) n
  have e : ∀ j, (j < 16 ∨ 48 ≤ j) → gOn G n j = G j := fun j hj => by unfold gOn ups; rw [if_neg (by omega)]
  refine ⟨by rw [e 0 (by omega)]; exact h.t0, by rw [e 48 (by omega)]; exact h.t1, by rw [e 96 (by omega)]; exact h.t2, by rw [e 144 (by omega)]; exact h.t3, fun j => ?_⟩
  unfold gOn ups
  split
  · exact hb _
  · exact h.lt j
theorem txR_put (c : FC) (y : TM) (h : Nat → Nat) : putA (txR c y) 17 (setA h).toList = txR c { y with G := ups y.G 16 32 h } := by
  apply Array.ext_getElem?
  intro j
  have hl : (setA h).toList.length = 32 := by simp [setA_size]
  rw [putA_get (by rw [hl, txR_size]; omega), hl]
  by_cases h1 : j = 0
  · subst h1; rw [if_neg (by omega), txR_lo, txR_lo]
  by_cases h2 : j < 193
  · obtain ⟨k, rfl⟩ : ∃ k, j = 1 + k := ⟨j - 1, by omega⟩
    rw [txR_G _ _ (by omega), txR_G _ _ (by omega)]
    show _ = some (fV k (ups y.G 16 32 h k))
    unfold ups
    by_cases h3 : 16 ≤ k ∧ k < 16 + 32
    · have e : fV k (h (k - 16)) = .int .u8 (h (k - 16)) := by unfold fV; rw [if_neg (by omega)]
      have e2 : 1 + k - 17 = k - 16 := by omega
      rw [if_pos (by omega), if_pos h3, Array.getElem?_toList, e2, setA_get _ (by omega), e]
    · rw [if_neg (by omega), if_neg h3]
  · obtain ⟨k, rfl⟩ : ∃ k, j = 193 + k := ⟨j - 193, by omega⟩
    rw [if_neg (by omega), txR_hi, txR_hi]
theorem gOn_off {G : Nat → Nat} (n : Nat) {j : Nat} (hj : j < 16 ∨ 48 ≤ j) : gOn G n j = G j := by unfold gOn ups; rw [if_neg (by omega)]
theorem gOn_fr {G : Nat → Nat} (h : Lone1 G) (hf : FR G) (n : Nat) : FR (gOn G n) := by
  refine ⟨fun k i _ _ => (gOn_lone h n).lt _, fun k hk h0 => ?_⟩
  by_cases e : k = 0
  · subst e
    exact absurd h0 (gOn_lone h n).t0
  · rw [gOn_off n (by omega)] at h0
    have := hf.tr k hk h0
    rw [← this]
    congr 1
    funext j
    exact gOn_off n (by omega)
structure Fst (G : Nat → Nat) (n : Nat) : Prop where
  lo : 37 ≤ n
  hi : n < 256
  no : hasB (hasT G) n = false
  al : ∀ i, 37 ≤ i → i < n → hasB (hasT G) i = true
theorem TX.ldH (h : TX w0 w c x t y) : (ldR 111 (.pointer (some ⟨t, 17, none⟩))).run Tryz.prog w = .ok (.agg (setA (hasT y.G))) w := by
  have := h.row.ld (U := 111) (o := 17) (n := 32) (by rw [txR_size]; decide) Tryz.underlying111 rfl (by kernel_rfl)
  have e : (txR c y).extract 17 (17 + 32) = setA (hasT y.G) := by
    apply Array.ext_getElem?
    intro j
    rw [Array.getElem?_extract]
    by_cases hj : j < 32
    · have e1 : 17 + j = 1 + (16 + j) := by omega
      have e2 : fV (16 + j) (y.G (16 + j)) = .int .u8 (y.G (16 + j)) := by unfold fV; rw [if_neg (by omega)]
      rw [if_pos (by rw [txR_size]; omega), e1, txR_G c y (by omega), setA_get _ hj, e2]
      rfl
    · rw [if_neg (by omega), Array.getElem?_eq_none (by rw [setA_size]; omega)]
  rw [e] at this
  exact this
theorem TX.stH (h : TX w0 w c x t y) (n : Nat) : (stR 111 (.pointer (some ⟨t, 17, none⟩)) (.agg (setA (bitOn (hasT y.G) n)))).run Tryz.prog w = .ok () (w.setRow t (putA (txR c y) 17 (setA (bitOn (hasT y.G) n)).toList)) ∧ TX w0 (w.setRow t (putA (txR c y) 17 (setA (bitOn (hasT y.G) n)).toList)) c x t { y with G := gOn y.G n } :=
  ⟨h.row.st (U := 111) (by rw [setA_size, txR_size]; decide) (by rw [setA_size]; kernel_rfl) (setA_one _), h.forest (txR_put c y _) (gOn_lone h.lone n) (gOn_fr h.lone h.fr n)⟩
attribute [local go_sem ↓] ld_set st_set ld_for
set_option maxRecDepth 100000 in
set_option maxHeartbeats 1000000 in
theorem fresh_is (h : TX w0 w c x t y) {n : Nat} (hn : Fst y.G n) : Calls Tryz.prog 198 #[.pointer (some ⟨t, 0, none⟩)] w fun e w' => e = .returned (.int .i64 n) ∧ TX w0 w' c x t { y with G := gOn y.G n } ∧ Upd (tMut t y) w w' := by
  have HH := Lib.hid h
  have HN := Lib.hid hn
  have HT := Lib.hid (taken_is w.drew h.lone)
  have HS : Hid (∀ wx, Below w.heap.size w wx → (ldR 115 (.pointer (some ⟨t, 1, none⟩))).run Tryz.prog wx = .ok (.agg (forA y.G)) wx ∧ wx.cell? ⟨t, 0, none⟩ = some (.pointer (some ⟨c.F, 0, none⟩)) ∧ wx.cell? ⟨c.F, 0, none⟩ = some (.pointer (some ⟨c.D, 0, none⟩))) := Lib.hid fun wx hx => ⟨(h.keep hx).ldF, (h.keep hx).c0, (h.keep hx).st.c0⟩
  have HZ : Hid (∀ wx, Below w.heap.size w wx → Calls Tryz.prog 42 #[.pointer (some ⟨c.D, 0, none⟩)] wx fun e w' => e = .returned (.int .i64 256) ∧ wx = w') := Lib.hid fun wx hx => size_is (h.keep hx).st.dk
  have hS0 := Lib.hid (HS.out _ (Below.refl _ _).drew)
  have HB0 := Lib.hid (Below.refl w.heap.size w).drew
  clear h hn
  generalize forA y.G = A at *
  generalize hX : setA (hasT y.G) = X at *
  have HX := Lib.hid hX
  clear hX
  go_enter Tryz.func198, Tryz.ntmps198
  go_upto_region 1 with fail
  go_region_held3 (fun wx => (ldR 115 (.pointer (some ⟨t, 1, none⟩))).run Tryz.prog wx = .ok (.agg A) wx ∧ wx.cell? ⟨t, 0, none⟩ = some (.pointer (some ⟨c.F, 0, none⟩)) ∧ wx.cell? ⟨c.F, 0, none⟩ = some (.pointer (some ⟨c.D, 0, none⟩))) (first | assumption | exact hS0.out | exact hS1.out | exact hS2.out | fail)
    (first | (go_at_call 260; (with_reducible refine HT.out.mono ?_); rintro e1 w1 ⟨rfl, hb1⟩; have HB1 := Lib.hid (HB0.out.trans (hb1.mono HB0.out.size)); have hS1 := Lib.hid (HS.out _ HB1.out); have HF := Lib.hid (first_is w1 (h := hasT y.G) (fun j => HH.out.lone.lt _) HN.out.hi HN.out.lo HN.out.no HN.out.al); rw [HX.out] at HF; clear hb1) | (go_at_call 42; (with_reducible refine (HZ.out _ HB0.out).mono ?_); rintro e2 w2 ⟨rfl, rfl⟩) | (go_at_call 42; (with_reducible refine (HZ.out _ HB1.out).mono ?_); rintro e2 w2 ⟨rfl, rfl⟩) | (go_at_call 261; (with_reducible refine HF.out.mono ?_); rintro e3 w3 ⟨rfl, hb3⟩; have HB3 := Lib.hid (HB1.out.trans (hb3.mono HB1.out.size)); have hS2 := Lib.hid (HS.out _ HB3.out); clear hb3))
  go_upto_region 6 with fail
  have hY := HH.out.keep HB3.out.drew
  have hb4 := HB3.out
  clear HT HS HZ hS0 hS1 hS2 HB0 HB1 HB3 HF
  have l1 := hY.ldH
  rw [HX.out] at l1
  have HW := Lib.hid (with_is w3.drew (h := hasT y.G) (fun j => HH.out.lone.lt _) HN.out.hi)
  rw [HX.out] at HW
  have HBd := Lib.hid hb4.drew
  have HYY := Lib.hid hY
  clear hY hb4
  have HWS : Hid (∀ w5, Below w3.drew.heap.size w3.drew w5 → (stR 111 (.pointer (some ⟨t, 17, none⟩)) (.agg (setA (bitOn (hasT y.G) n)))).run Tryz.prog w5 = .ok () (w5.setRow t (putA (txR c y) 17 (setA (bitOn (hasT y.G) n)).toList)) ∧ TX w0 (w5.setRow t (putA (txR c y) 17 (setA (bitOn (hasT y.G) n)).toList)) c x t { y with G := gOn y.G n }) := Lib.hid fun w5 hw => (HYY.out.keep hw).stH n
  generalize setA (bitOn (hasT y.G) n) = Z at *
  go_region_law (go_simp; go_at_call 44; refine HW.out.mono ?_; rintro e5 w5 ⟨rfl, hb5⟩; obtain ⟨st5, hT5⟩ := HWS.out w5 hb5; have HT5 := Lib.hid hT5; have HB5 := Lib.hid hb5; clear hb5 hT5)
  go_wp2_with fail
  go_ret
  exact ⟨rfl, HT5.out, ((Upd.below (HBd.out.trans (HB5.out.mono HBd.out.size)))).trans (Upd.setRow w5 _ (.inl rfl))⟩
set_option maxRecDepth 100000 in
set_option maxHeartbeats 400000 in
theorem own0_is (h : TX w0 w c x t y) {n : Nat} (hn : Fst y.G n) : Calls Tryz.prog 121 #[.pointer (some ⟨t, 0, none⟩), .int .i64 0] w fun e w' => e = .returned (.int .i64 n) ∧ TX w0 w' c x t { y with G := gOn y.G n } ∧ Upd (tMut t y) w w' := by
  have HF := Lib.hid (fresh_is h hn)
  clear h hn
  go_enter Tryz.func121, Tryz.ntmps121
  go_wp2_with (go_at_call 198; refine HF.out.mono ?_; rintro e1 w1 ⟨rfl, hT, hU⟩)
  go_ret
  exact ⟨rfl, hT, hU⟩
set_option maxRecDepth 100000 in
set_option maxHeartbeats 400000 in
theorem ownP_is (h : TX w0 w c x t y) {p : Int} (hp : p ≠ 0) : Calls Tryz.prog 121 #[.pointer (some ⟨t, 0, none⟩), .int .i64 p] w fun e w' => e = .returned (.int .i64 p) ∧ Below w.heap.size w w' := by
  have HS := Lib.hid (shared_is w h.lone (.int .i64 p))
  have l1 := h.ldF
  have i0 : (p == 0) = false := beq_eq_false_iff_ne.2 hp
  clear h
  generalize forA y.G = A at *
  go_enter Tryz.func121, Tryz.ntmps121
  go_wp2_with (go_at_call 199; refine HS.out.mono ?_; rintro e1 w1 ⟨rfl, hb1⟩)
  go_ret
  exact ⟨rfl, hb1⟩
end
end Go.Proofs.YtlfemcbfclallaaGreatDoor
namespace Go.Proofs.YtlfemcbfclallaaGreatDoor
open Go.RowKit Go.Maps
set_option linter.unusedVariables false
set_option linter.unusedSimpArgs false
def i64V (x : Int) : Value := .int .i64 x
theorem infoI8 : (Tryz.prog.info? 3).map (fun i => (i.zero, i.size, i.bytes)) = some (some (.int .i64 0), 1, 8) := by kernel_rfl
theorem i64V_one (l : List Int) : ∀ u ∈ l.map i64V, u.oneCell' = true := by
  intro u hu
  obtain ⟨x, _, rfl⟩ := List.mem_map.1 hu
  rfl
theorem cells_i64 {w : World} {b off : Nat} {l : List Int} (h : ∀ i, i < l.length → w.cell? ⟨b, off + i, none⟩ = some (i64V (l.getD i 0))) : ∀ j u, (l.map i64V)[j]? = some u → w.cell? ((⟨b, off, none⟩ : Addr).add j) = some u := by
  intro j u hj
  rw [Addr.add_lit]
  rw [List.getElem?_map] at hj
  have hlt : j < l.length := by
    rcases Nat.lt_or_ge j l.length with h | h
    · exact h
    · rw [List.getElem?_eq_none h] at hj; cases hj
  rw [h j hlt]
  simp [hlt] at hj
  simp [List.getD, hlt, hj]
def CloneI (l : List Int) (w : World) (e : Ending) (w' : World) : Prop := ∃ v', e = .returned v' ∧ w'.ownsRow w.heap.size 3 1 v' l.length (l.map i64V) ∧ Below w.heap.size w w'
set_option maxRecDepth 100000 in
set_option maxHeartbeats 400000 in
theorem cloneI_is {w : World} {v : Value} {l : List Int} (h8 : l.length ≤ 1000000) (hm : At (Value.int .i64) 0 w v l) : Calls Tryz.prog 129 #[v] w (CloneI l w) := by
  obtain ⟨a, cap, rfl, hl, hcap, hm⟩ := hm
  have q22 : ∀ (w : World) (a : Option Addr) (n c n' c' : Nat), (binOp .eql 53 (.slice a n c) (.slice none n' c')).run Tryz.prog w = .ok (.bool a.isNone) w := fun w a n c n' c' => Lib.run_eql_slice_nil w _ _ a n c n' c' Tryz.underlying53
  cases a with
  | none =>
    have h0 : l = [] := by
      rcases hm with h | ⟨b, off, h, _⟩
      · exact h
      · cases h
    subst h0
    clear hm
    go_enter Tryz.func129, Tryz.ntmps129
    go_wp2
    go_ret
    exact ⟨_, rfl, World.ownsRow_nil _ _ _ _, Below.refl _ _⟩
  | some ad =>
    have hcl : ∀ j u, (l.map i64V)[j]? = some u → w.cell? (ad.add j) = some u := by
      rcases hm with h | ⟨b, off, hab, hlt, hc⟩
      · intro j u hj
        subst h
        simp at hj
      · simp only [Option.some.injEq] at hab
        subst hab
        exact fun j u hj => cells_i64 hc j u hj
    have hlen : (l.map i64V).length = l.length * 1 := by simp
    have hone := i64V_one l
    obtain ⟨n, hn⟩ : ∃ n, n = l.length := ⟨_, rfl⟩
    unfold CloneI
    rw [← hn] at h8 hl hlen ⊢
    generalize l.map i64V = cs at *
    have HC := Lib.hid hcl
    have HO := Lib.hid hone
    have H8 := Lib.hid h8
    clear hm hn hcl hone h8
    obtain ⟨i0, hi, hz0, hz1, hz2⟩ := info_parts infoI8
    go_enter Tryz.func129, Tryz.ntmps129
    go_wp2_with (at_builtin; go_loud (refine wpList_append_fresh _ rfl (.tmp 5) (.tmp 6) 53 rfl w.heap.size 3 i0 (.int .i64 0) 1 8 Tryz.underlying53 hi hz0 hz1 hz2 rfl (by decide) _ _ _ rfl (World.ownsRow_made w #[] 0 (Nat.le_refl _) (Nat.zero_le _) rfl) ad n _ cs rfl hlen (fun j u h => by have := HC.out j u h; rw [World.cell?_alloc_lt]; exact this; exact World.block_lt_of_cell? w _ this) HO.out (by have := H8.out; unfold maxLen; omega) (by have := H8.out; omega) (by simp) ?_))
    intro v' w1 hown hgrow hfresh
    have hb1 : Below w.heap.size w w1 := ((Below.refl _ _).alloc (Nat.le_refl _) _).grown hgrow (by simp) (fun g hg => by simp [Value.ownBlock] at hg; omega)
    clear hgrow hfresh
    rcases hown.2 with ⟨rfl, hn⟩ | ⟨g, cap', cur, rfl, hb, hg, hnc, hcm, hcs, htake⟩
    · go_wp2
      go_ret
      exact ⟨_, rfl, by simpa using hown, hb1⟩
    · clear hb hg hnc hcm hcs htake
      go_wp2
      go_ret
      exact ⟨_, rfl, by simpa using hown, hb1⟩
def fsec (x : FM) (p : Nat) : List Int := if (x.td p).isSome then x.tb p else sect x.f p
def tsec (x : FM) (y : TM) (p : Nat) : List Int := if (y.pt p).isSome then y.pby p else fsec x p
section
variable {w0 w : World} {c : FC} {x : FM} {t : Nat} {y : TM}
theorem fsec_len (h : FSt w c x) {p : Nat} (hp : p < 256) : (fsec x p).length = 64 := by
  unfold fsec
  cases e : x.td p with
  | none => simp only [Option.isSome_none, Bool.false_eq_true, if_false]; exact sect_len h.dk.lf hp
  | some s => simp only [Option.isSome_some, if_true]; exact (h.tb p s e).2.1
theorem tsec_len (h : TX w0 w c x t y) {p : Nat} (hp : p < 256) : (tsec x y p).length = 64 := by
  unfold tsec
  cases e : y.pt p with
  | none => simp only [Option.isSome_none, Bool.false_eq_true, if_false]; exact fsec_len h.fs hp
  | some s => simp only [Option.isSome_some, if_true]; exact (h.pv p s e).2.1
def NewB (l : List Int) (w : World) (v : Value) (w' : World) : Prop := OB w.heap.size w' v l ∧ Below w.heap.size w w'
set_option maxRecDepth 100000 in
set_option maxHeartbeats 400000 in
theorem sectorF_is (h : FSt w c x) {p : Nat} (hp : p < 256) {n : Int} (hn : n = p) : Calls Tryz.prog 263 #[.pointer (some ⟨c.F, 0, none⟩), .int .i64 n] w fun e w' => ∃ v, e = .returned (.tuple #[v, .int .i64 0]) ∧ NewB (fsec x p) w v w' := by
  subst hn
  have c5 := h.c5
  have c0 := h.c0
  have l1 := h.td.look_ok (T := 134) Tryz.underlying134 (zeroS w) (k := p) (WalkArith.wf_i64 (by omega))
  have HR := Lib.hid (read_is h.dk hp)
  have HT := Lib.hid (fun s (e : x.td p = some s) => h.tb p s e)
  have HL := Lib.hid h.dk.lf
  unfold fsec NewB OB
  clear h
  cases e : x.td p with
  | none =>
    rw [e] at l1
    change _ = Result.ok (Value.tuple #[.slice none 0 0, .bool false]) w at l1
    simp only [Option.isSome_none, Bool.false_eq_true, if_false]
    have hl := sect_len HL.out hp
    generalize sect x.f p = X at *
    clear e HT
    go_enter Tryz.func263, Tryz.ntmps263
    go_wp2_with (go_at_call 49; refine HR.out.mono ?_; rintro e1 w1 ⟨v1, rfl, ho, hb⟩)
    go_ret2
    rw [hl]
    exact ⟨_, rfl, ho, hb⟩
  | some s =>
    obtain ⟨h1, h2, -⟩ := HT.out s e
    rw [e] at l1
    change _ = Result.ok (Value.tuple #[encS (some s), .bool true]) w at l1
    simp only [Option.isSome_some, if_true]
    have HC := Lib.hid (cloneB_is (by omega) h1.a)
    generalize encS (some s) = V at *
    generalize x.tb p = X at *
    clear e HT HR h1 h2
    go_enter Tryz.func263, Tryz.ntmps263
    go_wp2_with (go_at_call 107; refine HC.out.mono ?_; rintro e1 w1 ⟨v1, rfl, ho, hb⟩)
    go_ret2
    exact ⟨_, rfl, ho, hb⟩
set_option maxRecDepth 100000 in
set_option maxHeartbeats 400000 in
theorem sectorT_is (h : TX w0 w c x t y) {p : Nat} (hp : p < 256) {n : Int} (hn : n = p) : Calls Tryz.prog 212 #[.pointer (some ⟨t, 0, none⟩), .int .i64 n] w fun e w' => ∃ v, e = .returned v ∧ NewB (tsec x y p) w v w' := by
  subst hn
  have c5 := h.c5
  have c0 := h.c0
  have l1 := h.pb.look_ok (T := 134) Tryz.underlying134 (zeroS w) (k := p) (WalkArith.wf_i64 (by omega))
  have HR := Lib.hid (sectorF_is h.st hp (n := p) rfl)
  have HT := Lib.hid (fun s (e : y.pt p = some s) => h.pv p s e)
  unfold tsec
  clear h
  cases e : y.pt p with
  | none =>
    rw [e] at l1
    change _ = Result.ok (Value.tuple #[.slice none 0 0, .bool false]) w at l1
    simp only [Option.isSome_none, Bool.false_eq_true, if_false]
    generalize fsec x p = X at *
    clear e HT
    go_enter Tryz.func212, Tryz.ntmps212
    go_wp2_with (go_at_call 263; refine HR.out.mono ?_; rintro e1 w1 ⟨v1, rfl, hq⟩)
    go_ret
    exact ⟨_, rfl, hq⟩
  | some s =>
    obtain ⟨h1, h2, -⟩ := HT.out s e
    rw [e] at l1
    change _ = Result.ok (Value.tuple #[encS (some s), .bool true]) w at l1
    simp only [Option.isSome_some, if_true]
    have HC := Lib.hid (cloneB_is (by omega) h1.a)
    generalize encS (some s) = V at *
    generalize y.pby p = X at *
    clear e HT HR h1 h2
    go_enter Tryz.func212, Tryz.ntmps212
    go_wp2_with (go_at_call 107; refine HC.out.mono ?_; rintro e1 w1 ⟨v1, rfl, ho, hb⟩)
    go_ret
    exact ⟨_, rfl, ho, hb⟩
end
end Go.Proofs.YtlfemcbfclallaaGreatDoor
