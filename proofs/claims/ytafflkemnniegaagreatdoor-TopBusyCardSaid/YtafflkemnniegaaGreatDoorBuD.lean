/- The walk of slices.Insert at timers. -/
import Derived.Test.YtafflkemnniegaaGreatDoorBuC
namespace Go.Proofs.YtafflkemnniegaaGreatDoor
open Go.RowKit
set_option linter.unusedVariables false
set_option linter.unusedSimpArgs false
/-- what an insertion comes to -/
def InsTo (w : World) (g : Nat) (l : List (Int × Int)) (e : Ending) (w' : World) : Prop :=
  ∃ q c, e = .returned (.slice q l.length c) ∧ w'.ownsRow 0 128 2 (.slice q l.length c) l.length (tmC l) ∧ Upd (fun j => j = g) w w' ∧ ∀ j, (Value.slice q l.length c).ownBlock = some j → j = g ∨ w.heap.size ≤ j
/-- two splices that fill a new row -/
theorem splice_fill (A X B zz : List Value) {i k : Nat} (hA : A.length = i) (hX : X.length = k) (hk : k + B.length ≤ zz.length) : splice (splice (A ++ zz) i X) (i + k) B = A ++ X ++ B ++ zz.drop (k + B.length) := by
  subst hA
  subst hX
  have e1 : splice (A ++ zz) A.length X = A ++ X ++ zz.drop X.length := by
    unfold splice
    rw [List.take_left, List.drop_append]
    have : List.drop (A.length + X.length) A = [] := List.drop_eq_nil_of_le (by omega)
    rw [this, show A.length + X.length - A.length = X.length by omega]
    simp
  rw [e1]
  unfold splice
  have e2 : A.length + X.length = (A ++ X).length := by simp
  rw [e2, List.take_left, List.drop_append]
  have : List.drop ((A ++ X).length + B.length) (A ++ X) = [] := List.drop_eq_nil_of_le (by omega)
  rw [this, show (A ++ X).length + B.length - (A ++ X).length = B.length by omega]
  simp [List.drop_drop]
section
variable {w : World} {g cap vb i : Nat} {l : List (Int × Int)} {a p : Int}
attribute [local go_sem ↓] apTM_eq sl_tim cpT_eq azT_eq
set_option maxRecDepth 100000 in
set_option maxHeartbeats 1000000 in
/-- at the end -/
theorem insEnd_is (h : w.ownsRow 0 128 2 (.slice (some ⟨g, 0, none⟩) l.length cap) l.length (tmC l)) (hl : l.length ≤ 1000) (hv : Row w vb 128 #[.int .u32 a, .int .i64 p]) :
    Calls Tryz.prog 291 #[.slice (some ⟨g, 0, none⟩) l.length cap, .int .i64 l.length, .slice (some ⟨vb, 0, none⟩) 1 1] w fun e w' => InsTo w g (insL l l.length (a, p)) e w' := by
  obtain ⟨i0, i1, hz0, hz1, hz2⟩ := info_parts infoTM
  have hsrc : ∀ j u, ([.int .u32 a, .int .i64 p] : List Value)[j]? = some u → w.cell? ((⟨vb, 0, none⟩ : Addr).add j) = some u := fun j u hj => by
    rw [Addr.add_lit, Nat.zero_add, hv.cell]
    simpa using hj
  have hcap : l.length ≤ cap := by
    rcases h.2 with ⟨e, _⟩ | ⟨g', c', cur, e, _, _, hlc, _⟩
    · cases e
    · have e : (.slice (some ⟨g, 0, none⟩) l.length cap : Value) = .slice (some ⟨g', 0, none⟩) l.length c' := e
      injection e with _ _ e
      rw [e]
      exact hlc
  obtain ⟨v', w', hr, ho, hg, h4⟩ := run_append_fresh (P := Tryz.prog) w 0 124 124 128 i0 (.agg #[.int .u32 0, .int .i64 0]) 2 16 Tryz.underlying124 i1 hz0 hz1 hz2 rfl (by decide) _ l.length (tmC l) h ⟨vb, 0, none⟩ 1 1 [.int .u32 a, .int .i64 p] rfl hsrc (by simp [Value.oneCell']) (by unfold maxLen; omega) (by omega) (Nat.zero_le _)
  obtain ⟨q, c, rfl⟩ := own_form ho
  have hap : (apTM #[.slice (some ⟨g, 0, none⟩) l.length cap, .slice (some ⟨vb, 0, none⟩) 1 1]).run Tryz.prog w = .ok (.slice q (l.length + 1) c) w' := hr
  have hs := slT_tail (bl := g) (L := l.length) (cap := cap) (lo := l.length) (Nat.le_refl _) hcap w
  have HU : Hid (Upd (fun j => j = g) w w') := Lib.hid (Upd.grown hg rfl)
  have HO : Hid (w'.ownsRow 0 128 2 (.slice q (l.length + 1) c) (l.length + 1) (tmC (insL l l.length (a, p)))) := Lib.hid (by
    rw [tmC_ins]
    have e1 : (tmC l).take (l.length * 2) = tmC l := List.take_of_length_le (by rw [tmC_len]; exact Nat.le_refl _)
    have e2 : (tmC l).drop (l.length * 2) = [] := List.drop_eq_nil_of_le (by rw [tmC_len]; exact Nat.le_refl _)
    rw [e1, e2, List.append_nil]
    exact ho)
  have HB : Hid (∀ j, (Value.slice q (l.length + 1) c).ownBlock = some j → j = g ∨ w.heap.size ≤ j) := Lib.hid fun j hj => by
    rcases h4 with e | ⟨g', e1, e2⟩
    · rw [hj] at e
      injection e with e
      exact .inl e
    · rw [hj] at e2
      injection e2 with e2
      exact .inr (by omega)
  have HL := Lib.hid (insL_len l (Nat.le_refl l.length) (a, p))
  have n1 : (l.length : Int) ≤ 1000 := by omega
  generalize insL l l.length (a, p) = l' at *
  generalize l.length = n at *
  clear h hsrc hr ho hg h4 hz0 hz1 hz2 i1 hv hl hcap
  go_enter Tryz.func291, Tryz.ntmps291
  go_wp2_with fail
  go_ret
  unfold InsTo
  rw [HL.out]
  exact ⟨q, c, rfl, HO.out, HU.out, HB.out⟩
set_option maxRecDepth 100000 in
set_option maxHeartbeats 2000000 in
/-- further ahead, where there is room -/
theorem insIn_is (h : w.ownsRow 0 128 2 (.slice (some ⟨g, 0, none⟩) l.length cap) l.length (tmC l)) (hl : l.length ≤ 1000) (hv : Row w vb 128 #[.int .u32 a, .int .i64 p]) (hne : vb ≠ g) (hi : i < l.length) (hc : l.length + 1 ≤ cap) :
    Calls Tryz.prog 291 #[.slice (some ⟨g, 0, none⟩) l.length cap, .int .i64 i, .slice (some ⟨vb, 0, none⟩) 1 1] w fun e w' => InsTo w g (insL l i (a, p)) e w' := by
  obtain ⟨cur, hg, hcm, hcs, htk⟩ : ∃ cur, Row w g 128 cur ∧ cap ≤ maxLen ∧ cur.size = cap * 2 ∧ cur.toList.take (l.length * 2) = tmC l := by
    rcases h.2 with ⟨e, _⟩ | ⟨g', c', cur, e, _, h1, h2, h3, h4, h5⟩
    · cases e
    · have e : (.slice (some ⟨g, 0, none⟩) l.length cap : Value) = .slice (some ⟨g', 0, none⟩) l.length c' := e
      injection e with e1 _ e2
      injection e1 with e1
      injection e1 with e1
      subst e1
      subst e2
      exact ⟨cur, h1, h3, h4, h5⟩
  have hcur : cur.toList = (tmC l).take (i * 2) ++ (tmC l).drop (i * 2) ++ cur.toList.drop (l.length * 2) := by
    rw [List.take_append_drop, ← htk, List.take_append_drop]
  have hB1 : ((tmC l).drop (i * 2)).length = (l.length - i) * 2 := by rw [List.length_drop, tmC_len]; omega
  have hA1 : ((tmC l).take (i * 2)).length = i * 2 := by rw [List.length_take, tmC_len]; omega
  have hone : ∀ u ∈ (tmC l).drop (i * 2), u.oneCell' = true := fun u hu => tmC_one l u (List.mem_of_mem_drop hu)
  obtain ⟨X, hX⟩ : ∃ X : List Value, X = [.int .u32 a, .int .i64 p] := ⟨_, rfl⟩
  have hX2 : X.length = 2 := by rw [hX]; rfl
  have hXo : ∀ u ∈ X, u.oneCell' = true := by rw [hX]; simp [Value.oneCell']
  have cell1 : ∀ j v, ((tmC l).drop (i * 2))[j]? = some v → w.drew.cell? ((⟨g, i * 2, none⟩ : Addr).add j) = some v := fun j v hj => by
    rw [Addr.add_lit, hg.drew.cell, ← Array.getElem?_toList, hcur]
    rw [List.getElem?_append_left (by rw [List.length_append, hA1, hB1]; have := (List.getElem?_eq_some_iff.1 hj).1; rw [hB1] at this; omega), List.getElem?_append_right (by omega), hA1, Nat.add_sub_cancel_left]
    exact hj
  have hcp1 : ∀ (ty : TypeId), (cpT ty #[.slice (some ⟨g, (i + 1) * 2, none⟩) (l.length + 1 - (i + 1)) (cap - (i + 1)), .slice (some ⟨g, i * 2, none⟩) (l.length + 1 - i) (cap - i)]).run Tryz.prog w.drew = .ok (.int .i64 (l.length - i : Nat)) (w.drew.setRow g (splice cur.toList ((i + 1) * 2) ((tmC l).drop (i * 2))).toArray) := fun ty => by
    have hmin : Nat.min (l.length + 1 - i) (l.length + 1 - (i + 1)) = l.length - i := by show min _ _ = _; omega
    rw [cpT_run ty hg.drew (cs := (tmC l).drop (i * 2)) (by rw [hB1, hmin]) cell1 (by rw [hB1, hcs]; omega) hone, hmin]
  obtain ⟨C1, hC1⟩ : ∃ C1, C1 = (splice cur.toList ((i + 1) * 2) ((tmC l).drop (i * 2))).toArray := ⟨_, rfl⟩
  have hC1s : C1.size = cap * 2 := by
    rw [hC1, List.size_toArray, length_splice _ _ _ (by rw [hB1]; simp [hcs]; omega)]
    simp [hcs]
  obtain ⟨W1, hW1⟩ : ∃ W1, W1 = w.drew.setRow g C1 := ⟨_, rfl⟩
  have hg1 : Row W1 g 128 C1 := by rw [hW1]; exact hg.drew.setRow C1
  have hv1 : Row W1 vb 128 #[.int .u32 a, .int .i64 p] := by rw [hW1]; exact hv.drew.setRowO (Ne.symm hne) C1
  rw [← hC1, ← hW1] at hcp1
  have hcp2 : ∀ (ty : TypeId), (cpT ty #[.slice (some ⟨g, i * 2, none⟩) (l.length + 1 - i) (cap - i), .slice (some ⟨vb, 0, none⟩) 1 1]).run Tryz.prog W1 = .ok (.int .i64 1) (W1.setRow g (splice C1.toList (i * 2) X).toArray) := fun ty => by
    have hmin : Nat.min 1 (l.length + 1 - i) = 1 := by show min _ _ = _; omega
    rw [cpT_run ty hg1 (cs := X) (by rw [hX2, hmin]) (fun j v hj => by
      rw [Addr.add_lit, Nat.zero_add, hv1.cell]
      rw [hX] at hj
      simpa using hj) (by rw [hX2, hC1s]; omega) hXo, hmin]
    rfl
  have hfin : splice C1.toList (i * 2) X = tmC (insL l i (a, p)) ++ (cur.toList.drop (l.length * 2)).drop 2 := by
    rw [hC1]
    show splice (splice cur.toList ((i + 1) * 2) ((tmC l).drop (i * 2))) (i * 2) X = _
    rw [show (i + 1) * 2 = i * 2 + 2 by omega, splice_in _ _ _ X _ hcur hA1 hX2 (by rw [List.length_drop]; simp [hcs]; omega), tmC_ins, hX]
  have HR : Hid (Row (W1.setRow g (splice C1.toList (i * 2) X).toArray) g 128 (splice C1.toList (i * 2) X).toArray) := Lib.hid (hg1.setRow _)
  have HU : Hid (Upd (fun j => j = g) w (W1.setRow g (splice C1.toList (i * 2) X).toArray)) := Lib.hid (by
    rw [hW1]
    exact ((Upd.drew (S := fun j => j = g) w).trans (Upd.setRow (S := fun j => j = g) _ _ rfl)).trans (Upd.setRow (S := fun j => j = g) _ _ rfl))
  have HL := Lib.hid (insL_len l (Nat.le_of_lt hi) (a, p))
  have HO : Hid (∀ wx, Row wx g 128 (splice C1.toList (i * 2) X).toArray → wx.ownsRow 0 128 2 (.slice (some ⟨g, 0, none⟩) (insL l i (a, p)).length cap) (insL l i (a, p)).length (tmC (insL l i (a, p)))) := Lib.hid fun wx hx => by
    refine ⟨tmC_len _, .inr ⟨g, cap, _, rfl, Nat.zero_le _, hx, by rw [HL.out]; omega, hcm, ?_, ?_⟩⟩
    · rw [List.size_toArray, length_splice _ _ _ (by rw [hX2]; simp [hC1s]; omega)]
      simp [hC1s]
    · show (splice C1.toList (i * 2) X).take _ = _
      rw [hfin, List.take_append_of_le_length (by rw [tmC_len]; exact Nat.le_refl _), List.take_of_length_le (by rw [tmC_len]; exact Nat.le_refl _)]
  have hov : ∀ lb cb, (callFunc 340 #[.slice (some ⟨vb, 0, none⟩) 1 1, .slice (some ⟨g, (i + 1) * 2, none⟩) lb cb]).run Tryz.prog w = .ok (.value (.bool false)) w := fun lb cb => by
    rw [run_callFunc_extern Tryz.func340 (by kernel_rfl) (by kernel_rfl) (by kernel_rfl) (e := Extern.SlicesOverlaps.overlaps #[124, 124] #[4]) (by kernel_rfl), Lib.run_overlaps_apart w 124 4 128 Tryz.underlying124 2 (fun w => by kernel_rfl) ⟨vb, 0, none⟩ ⟨g, (i + 1) * 2, none⟩ 1 1 lb cb hne 128 128 2 (cap * 2) (by simp [World.shape?, show w.heap[vb]? = _ from hv]) (by simp [World.shape?, show w.heap[g]? = _ from hg, hcs]) (by omega) (hv.fz 0) (hv.fz 2)]
    rfl
  have s1 := fun wx => slT_at (bl := g) (L := l.length) (cap := cap) (lo := i) (by omega) (by omega) (by omega) wx
  have s2 := fun wx => slT_upto (bl := g) (L := l.length) (cap := cap) (hi := l.length + 1) hc wx
  have s3 := fun wx => slT_at (bl := g) (L := l.length + 1) (cap := cap) (lo := i + 1) (by omega) (by omega) hc wx
  have s4 := fun wx => slT_at (bl := g) (L := l.length + 1) (cap := cap) (lo := i) (by omega) (by omega) hc wx
  rw [Nat.add_sub_add_right] at hcp1 s3
  have n1 : (l.length : Int) ≤ 1000 := by omega
  have n2 : (i : Int) < l.length := by omega
  have n3 : ¬ (i : Int) = l.length := by omega
  have n4 : ¬ (cap : Int) < (l.length : Int) + 1 := by omega
  have e1 : ((l.length + 1 : Nat) : Int) = (l.length : Int) + 1 := by omega
  have e2 : ((i + 1 : Nat) : Int) = (i : Int) + 1 := by omega
  rw [e1] at s2
  rw [e2] at s3
  generalize (splice C1.toList (i * 2) X).toArray = C2 at *
  generalize insL l i (a, p) = l' at *
  generalize l.length = n at *
  clear h hv hg hcur hB1 hA1 hone cell1 hX hX2 hXo hC1 hC1s hg1 hv1 hfin htk hcs hcm e1 e2 hc hi hl hW1
  go_enter Tryz.func291, Tryz.ntmps291
  go_upto_region 15 with (simp only [hov])
  go_region
  go_wp2_with fail
  go_ret
  have := HO.out _ HR.out
  rw [HL.out] at this
  unfold InsTo
  rw [HL.out]
  exact ⟨_, cap, rfl, this, HU.out, fun j hj => by injection hj with hj; exact .inl hj.symm⟩
set_option maxRecDepth 100000 in
set_option maxHeartbeats 2000000 in
/-- further ahead, where there is no room: a new row -/
theorem insNew_is (h : w.ownsRow 0 128 2 (.slice (some ⟨g, 0, none⟩) l.length cap) l.length (tmC l)) (hl : l.length ≤ 200) (hv : Row w vb 128 #[.int .u32 a, .int .i64 p]) (hne : vb ≠ g) (hi : i < l.length) (hc : ¬ l.length + 1 ≤ cap) :
    Calls Tryz.prog 291 #[.slice (some ⟨g, 0, none⟩) l.length cap, .int .i64 i, .slice (some ⟨vb, 0, none⟩) 1 1] w fun e w' => InsTo w g (insL l i (a, p)) e w' := by
  obtain ⟨cur, hg, hcs, htk, hlc⟩ : ∃ cur, Row w g 128 cur ∧ cur.size = cap * 2 ∧ cur.toList.take (l.length * 2) = tmC l ∧ l.length ≤ cap := by
    rcases h.2 with ⟨e, _⟩ | ⟨g', c', cur, e, _, h1, h2, h3, h4, h5⟩
    · cases e
    · have e : (.slice (some ⟨g, 0, none⟩) l.length cap : Value) = .slice (some ⟨g', 0, none⟩) l.length c' := e
      injection e with e1 _ e2
      injection e1 with e1
      injection e1 with e1
      subst e1
      subst e2
      exact ⟨cur, h1, h4, h5, h2⟩
  have hcn : cap = l.length := by omega
  have hgl := hg.lt
  have hvl := hv.lt
  have hcur : ∀ j, j < l.length * 2 → cur[j]? = (tmC l)[j]? := fun j hj => by
    rw [← htk, List.getElem?_take, if_pos hj, Array.getElem?_toList]
  have hB1 : ((tmC l).drop (i * 2)).length = (l.length - i) * 2 := by rw [List.length_drop, tmC_len]; omega
  have hA1 : ((tmC l).take (i * 2)).length = i * 2 := by rw [List.length_take, tmC_len]; omega
  have hone : ∀ u ∈ (tmC l).drop (i * 2), u.oneCell' = true := fun u hu => tmC_one l u (List.mem_of_mem_drop hu)
  obtain ⟨X, hX⟩ : ∃ X : List Value, X = [.int .u32 a, .int .i64 p] := ⟨_, rfl⟩
  have hX2 : X.length = 2 := by rw [hX]; rfl
  have hXo : ∀ u ∈ X, u.oneCell' = true := by rw [hX]; simp [Value.oneCell']
  obtain ⟨i0, i1, hz0, hz1, hz2⟩ := info_parts infoTM
  have hold : (Builtin.firstCells i0.size i (.slice (some ⟨g, 0, none⟩) i cap)).run Tryz.prog w.drew = .ok ((tmC l).take (i * 2)).toArray w.drew := by
    rw [hz1]
    show (loadCells ⟨g, 0, none⟩ (i * 2)).run Tryz.prog w.drew = _
    have := run_loadCells_list (P := Tryz.prog) w.drew ⟨g, 0, none⟩ ((tmC l).take (i * 2)) (fun j v hj => by
      have hj2 := (List.getElem?_eq_some_iff.1 hj).1
      rw [hA1] at hj2
      rw [List.getElem?_take, if_pos hj2] at hj
      rw [Addr.add_lit, Nat.zero_add, hg.drew.cell, hcur j (by omega)]
      exact hj)
    rw [hA1] at this
    exact this
  obtain ⟨gc, hgc⟩ : ∃ gc, gc = grownCap w (i + (l.length + 1 - i)) cap 128 := ⟨_, rfl⟩
  have hg1 : i + (l.length + 1 - i) ≤ gc := by rw [hgc]; exact grownCap_ge _ _ _ _
  have hg2 : gc ≤ maxLen := by rw [hgc]; exact grownCap_le_maxLen _ _ _ _ (by unfold maxLen; omega)
  have hgrow := Lib.run_append_grow_zeros (P := Tryz.prog) w 124 3 124 128 i0 (.agg #[.int .u32 0, .int .i64 0]) .i64 .i64 Tryz.underlying124 Tryz.underlying3 i1 hz0 (some ⟨g, 0, none⟩) i cap ((tmC l).take (i * 2)) hold (l.length + 1 - i) (by omega) (by omega) (by omega) (by omega) (by rw [hz2]; omega) (by
    rw [hz2]
    unfold Builtin.nextslicecap
    split
    · omega
    · split
      · omega
      · exfalso; omega)
  rw [← hgc] at hgrow
  obtain ⟨zz, hzz⟩ : ∃ zz : List Value, zz = (Builtin.zeroCells (Value.agg #[.int .u32 0, .int .i64 0]).cells (l.length + 1 - i)).toList ++ (Builtin.zeroCells (Value.agg #[.int .u32 0, .int .i64 0]).cells (gc - (i + (l.length + 1 - i)))).toList := ⟨_, rfl⟩
  have hzl : zz.length = (gc - i) * 2 := by
    rw [hzz, List.length_append]
    simp [Builtin.zeroCells, Value.cells]
    omega
  have hZ : ((tmC l).take (i * 2)).toArray ++ Builtin.zeroCells (Value.agg #[.int .u32 0, .int .i64 0]).cells (l.length + 1 - i) ++ Builtin.zeroCells (Value.agg #[.int .u32 0, .int .i64 0]).cells (gc - (i + (l.length + 1 - i))) = ((tmC l).take (i * 2) ++ zz).toArray := by
    rw [hzz]
    apply Array.toList_inj.1
    simp
  rw [hZ] at hgrow
  obtain ⟨C0, hC0⟩ : ∃ C0, C0 = ((tmC l).take (i * 2) ++ zz).toArray := ⟨_, rfl⟩
  have hC0s : C0.size = gc * 2 := by
    rw [hC0, List.size_toArray, List.length_append, hA1, hzl]
    omega
  rw [← hC0] at hgrow
  obtain ⟨W1, hW1⟩ : ∃ W1, W1 = w.drew.alloc (.cells C0 128) := ⟨_, rfl⟩
  obtain ⟨nb, hnb⟩ : ∃ nb, nb = w.heap.size := ⟨_, rfl⟩
  rw [← hW1, ← hnb] at hgrow
  have h1n : Row W1 nb 128 C0 := by
    rw [hW1, hnb]
    exact row_new w.drew _ _
  have h1g : Row W1 g 128 cur := by rw [hW1]; exact hg.drew.alloc _
  have h1v : Row W1 vb 128 #[.int .u32 a, .int .i64 p] := by rw [hW1]; exact hv.drew.alloc _
  have haz : (azT #[.slice (some ⟨g, 0, none⟩) i cap, .int .i64 ((l.length : Int) + 1 - i)]).run Tryz.prog w = .ok (.slice (some ⟨nb, 0, none⟩) (l.length + 1) gc) W1 := by
    have e : ((l.length + 1 - i : Nat) : Int) = (l.length : Int) + 1 - i := by omega
    rw [e, show i + (l.length + 1 - i) = l.length + 1 by omega] at hgrow
    exact hgrow
  have hcp1 : ∀ (ty : TypeId), (cpT ty #[.slice (some ⟨nb, i * 2, none⟩) (l.length + 1 - i) (gc - i), .slice (some ⟨vb, 0, none⟩) 1 1]).run Tryz.prog W1 = .ok (.int .i64 1) (W1.setRow nb (splice C0.toList (i * 2) X).toArray) := fun ty => by
    have hmin : Nat.min 1 (l.length + 1 - i) = 1 := by show min _ _ = _; omega
    rw [cpT_run ty h1n (cs := X) (by rw [hX2, hmin]) (fun j v hj => by
      rw [Addr.add_lit, Nat.zero_add, h1v.cell]
      rw [hX] at hj
      simpa using hj) (by rw [hX2, hC0s]; omega) hXo, hmin]
    rfl
  obtain ⟨C1, hC1⟩ : ∃ C1, C1 = (splice C0.toList (i * 2) X).toArray := ⟨_, rfl⟩
  have hC1s : C1.size = gc * 2 := by
    rw [hC1, List.size_toArray, length_splice _ _ _ (by rw [hX2]; simp [hC0s]; omega)]
    simp [hC0s]
  obtain ⟨W2, hW2⟩ : ∃ W2, W2 = W1.setRow nb C1 := ⟨_, rfl⟩
  rw [← hC1, ← hW2] at hcp1
  have h2n : Row W2 nb 128 C1 := by rw [hW2]; exact h1n.setRow C1
  have h2g : Row W2 g 128 cur := by rw [hW2]; exact h1g.setRowO (by omega) C1
  have hcp2 : ∀ (ty : TypeId), (cpT ty #[.slice (some ⟨nb, (i + 1) * 2, none⟩) (l.length - i) (gc - (i + 1)), .slice (some ⟨g, i * 2, none⟩) (l.length - i) (cap - i)]).run Tryz.prog W2.drew = .ok (.int .i64 (l.length - i : Nat)) (W2.drew.setRow nb (splice C1.toList ((i + 1) * 2) ((tmC l).drop (i * 2))).toArray) := fun ty => by
    have hmin : Nat.min (l.length - i) (l.length - i) = l.length - i := by show min _ _ = _; omega
    rw [cpT_run ty h2n.drew (cs := (tmC l).drop (i * 2)) (by rw [hB1, hmin]) (fun j v hj => by
      have hj2 := (List.getElem?_eq_some_iff.1 hj).1
      rw [hB1] at hj2
      rw [List.getElem?_drop] at hj
      rw [Addr.add_lit, h2g.drew.cell, hcur _ (by omega)]
      exact hj) (by rw [hB1, hC1s]; omega) hone, hmin]
  obtain ⟨C2, hC2⟩ : ∃ C2, C2 = (splice C1.toList ((i + 1) * 2) ((tmC l).drop (i * 2))).toArray := ⟨_, rfl⟩
  have hC2s : C2.size = gc * 2 := by
    rw [hC2, List.size_toArray, length_splice _ _ _ (by rw [hB1]; simp [hC1s]; omega)]
    simp [hC1s]
  rw [← hC2] at hcp2
  have hfin : C2.toList = tmC (insL l i (a, p)) ++ zz.drop (2 + (l.length - i) * 2) := by
    rw [hC2, hC1, hC0]
    show splice (splice ((tmC l).take (i * 2) ++ zz) (i * 2) X) ((i + 1) * 2) ((tmC l).drop (i * 2)) = _
    rw [show (i + 1) * 2 = i * 2 + 2 by omega, splice_fill _ X _ zz hA1 hX2 (by rw [hB1, hzl]; omega), tmC_ins, hX, hB1]
  have HR : Hid (Row (W2.drew.setRow nb C2) nb 128 C2) := Lib.hid (h2n.drew.setRow _)
  have HU : Hid (Upd (fun j => j = g) w (W2.drew.setRow nb C2)) := Lib.hid (by
    rw [hW2, hW1]
    refine Upd.below (Below.trans (b := W1) ?_ ?_)
    · rw [hW1]; exact ((Below.refl _ w).drew).trans ((Go.Joins.below_alloc1 w.drew _).mono (Nat.le_refl _))
    · rw [← hW1]
      exact (below_setRow (B := w.heap.size) (below_setRow (B := w.heap.size) (Below.refl _ _) (by omega) C1).drew (by omega) C2))
  have HL := Lib.hid (insL_len l (Nat.le_of_lt hi) (a, p))
  have HO : Hid (∀ wx, Row wx nb 128 C2 → wx.ownsRow 0 128 2 (.slice (some ⟨nb, 0, none⟩) (insL l i (a, p)).length gc) (insL l i (a, p)).length (tmC (insL l i (a, p)))) := Lib.hid fun wx hx => by
    refine ⟨tmC_len _, .inr ⟨nb, gc, _, rfl, Nat.zero_le _, hx, by rw [HL.out]; omega, hg2, hC2s, ?_⟩⟩
    rw [hfin, List.take_append_of_le_length (by rw [tmC_len]; exact Nat.le_refl _), List.take_of_length_le (by rw [tmC_len]; exact Nat.le_refl _)]
  have s1 := fun wx => slT_at (bl := g) (L := l.length) (cap := cap) (lo := i) (by omega) (by omega) (by omega) wx
  have s2 := fun wx => slT_upto (bl := g) (L := l.length) (cap := cap) (hi := i) (by omega) wx
  have s3 := fun wx => slT_at (bl := nb) (L := l.length + 1) (cap := gc) (lo := i) (by omega) (by omega) (by omega) wx
  have s4 := fun wx => slT_at (bl := nb) (L := l.length + 1) (cap := gc) (lo := i + 1) (by omega) (by omega) (by omega) wx
  rw [Nat.add_sub_add_right] at s4
  have n1 : (l.length : Int) ≤ 1000 := by omega
  have n2 : (i : Int) < l.length := by omega
  have n3 : ¬ (i : Int) = l.length := by omega
  have n4 : (cap : Int) < (l.length : Int) + 1 := by omega
  have e2 : ((i + 1 : Nat) : Int) = (i : Int) + 1 := by omega
  rw [e2] at s4
  have HNB : Hid (w.heap.size ≤ nb) := Lib.hid (by omega)
  generalize insL l i (a, p) = l' at *
  generalize l.length = n at *
  clear h hv hg hcur hB1 hA1 hone hX hX2 hXo hfin htk hcs hold hgrow hz0 hz1 hz2 i1 hzz hzl hZ hC0 hC0s hC1 hC1s hC2 hC2s h1n h1g h1v h2n h2g hg1 hg2 hgc hlc hcn hgl hvl e2 hl hi hc hW1 hW2 hnb
  go_enter Tryz.func291, Tryz.ntmps291
  go_upto_region 11 with fail
  go_region
  go_wp2_with fail
  go_ret
  have := HO.out _ HR.out
  rw [HL.out] at this
  unfold InsTo
  rw [HL.out]
  exact ⟨_, gc, rfl, this, HU.out, fun j hj => by injection hj with hj; exact .inr (by rw [← hj]; exact HNB.out)⟩
/-- slices.Insert of one timer -/
theorem insertT_is (h : w.ownsRow 0 128 2 (.slice (some ⟨g, 0, none⟩) l.length cap) l.length (tmC l)) (hl : l.length ≤ 200) (hv : Row w vb 128 #[.int .u32 a, .int .i64 p]) (hne : vb ≠ g) (hi : i ≤ l.length) :
    Calls Tryz.prog 291 #[.slice (some ⟨g, 0, none⟩) l.length cap, .int .i64 i, .slice (some ⟨vb, 0, none⟩) 1 1] w fun e w' => InsTo w g (insL l i (a, p)) e w' := by
  by_cases e : i = l.length
  · subst e
    exact insEnd_is h (by omega) hv
  · by_cases hc : l.length + 1 ≤ cap
    · exact insIn_is h (by omega) hv hne (by omega) hc
    · exact insNew_is h hl hv hne (by omega) hc
end
end Go.Proofs.YtafflkemnniegaaGreatDoor
