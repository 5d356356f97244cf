/- The walk of the law EdgeText. -/
import Derived.Test.YtopadiofanaaiaaDoorReplOne
namespace Go.Proofs.YtopadiofanaaiaaDoor
open Go.RowKit Go.Maps
set_option linter.unusedVariables false
set_option linter.unusedSimpArgs false
/-- the world behind New -/
def newed (w : World) : World := (w.alloc (.map #[] 0)).alloc (.cells #[.int .i64 8, .int .i64 0, .int .i64 0, .slice none 0 0, .map (some w.heap.size)] 41)
theorem newed_size (w : World) : (newed w).heap.size = w.heap.size + 2 := by simp [newed]
theorem newed_below (w : World) : Below w.heap.size w (newed w) := ((Below.refl _ _).alloc (Nat.le_refl _) _).alloc (by simp) _
theorem IMap.lt {w : World} {b n : Nat} {f : Int → Option (Nat × Int)} (h : IMap w b n f) : b < w.heap.size := by
  obtain ⟨D, hD, _⟩ := h
  obtain ⟨es, clock, hes, _⟩ := hD
  exact (Array.getElem?_eq_some_iff.1 hes).1
theorem newed_has (w : World) : Has (newed w) (w.heap.size + 1) [.int .i64 8, .int .i64 0, .int .i64 0, .slice none 0 0, .map (some w.heap.size)] := by
  have := has_new (w.alloc (.map #[] 0)) [.int .i64 8, .int .i64 0, .int .i64 0, .slice none 0 0, .map (some w.heap.size)] 41
  rw [World.size_alloc] at this
  exact this
theorem newed_free (w : World) (j : Nat) : (newed w).frozen? ⟨w.heap.size + 1, j, none⟩ = false := by
  have := World.frozen?_alloc_new (w.alloc (.map #[] 0)) #[.int .i64 8, .int .i64 0, .int .i64 0, .slice none 0 0, .map (some w.heap.size)] 41 j
  rw [World.size_alloc] at this
  exact this
theorem newed_map (w : World) : OMap (newed w) w.heap.size 0 (fun _ => none) :=
  (OMap.made w).kept (World.grownBy_alloc _ _ none) (by simp)
theorem newed_eq (w : World) : (w.alloc (.map #[] 0)).alloc (.cells #[.int .i64 8, .int .i64 0, .int .i64 0, .slice none 0 0, .map (some w.heap.size)] 41) = newed w := rfl
def tag3 (n : Nat) : Nat → Nat := fun b => if b = n + 1 then 1 else if b = n then 2 else if b = n + 2 then 3 else 0
theorem mem_made {w w2 : World} (om : OMap w2 w.heap.size 1 (fun k => if k = 1 then some (w.heap.size + 2) else none)) (sm : IMap w2 (w.heap.size + 2) 0 (fun _ => none)) (hg : (newed w).grownBy w2 (some w.heap.size)) (hsz : w.heap.size + 3 ≤ w2.heap.size) (first : Int) :
    Mem (w.heap.size + 3) (tag3 w.heap.size) w2 (w.heap.size + 1) w.heap.size (w.heap.size + 2) (.slice none 0 0) (fun _ => 0) 0 first (fun _ _ => 0) := by
  have hh := newed_has w
  have hl : w.heap.size + 1 < (newed w).heap.size := by rw [newed_size]; omega
  have hne : some (w.heap.size + 1) ≠ some w.heap.size := by simp
  have c : ∀ {o v}, (newed w).cell? ⟨w.heap.size + 1, o, none⟩ = some v → w2.cell? ⟨w.heap.size + 1, o, none⟩ = some v := fun h => (grown_cell hg hl hne).trans h
  refine ⟨c (hh.2 0 _ rfl), c (hh.2 1 _ rfl), ⟨0, c (hh.2 2 _ rfl)⟩, c (hh.2 3 _ rfl), c (hh.2 4 _ rfl), fun j => (grown_frozen hg hl hne).trans (newed_free w j), by omega, World.ownsRow_nil _ _ _ _, om, ?_, fun i hi => by omega, by simp [tag3], by simp [tag3], by simp [tag3], (fun b hb => by cases hb), fun i hi => by omega, fun k hk => ?_, hsz⟩
  · have e : (fun k : Int => if first ≤ k ∧ k < first + ((0 : Nat) : Int) then some ((fun _ : Nat => 0) (k - first).toNat, (3 : Int)) else none) = fun _ => none := by
      funext k
      rw [if_neg (by omega)]
    rw [e]
    exact sm
  · unfold tag3
    rw [if_neg (by omega), if_neg (by omega), if_neg (by omega)]
theorem tag3_low {n b : Nat} (h : b < n) : tag3 n b = 0 := by
  unfold tag3
  rw [if_neg (by omega), if_neg (by omega), if_neg (by omega)]
theorem cut_list (R : ByteArray) (n : Nat) : (R.extract 0 n).data.toList = R.data.toList.take n := by
  rw [Lib.extract_data]
  simp
theorem cut_size (R : ByteArray) {q : Int} (h0 : 0 ≤ q) (h1 : q ≤ 64) : (R.extract 0 q.toNat).size ≤ 64 := by
  have e : (R.extract 0 q.toNat).data.toList.length = (R.extract 0 q.toNat).size := by simp
  rw [← e, cut_list, List.length_take]
  omega
theorem cut_ne (R : ByteArray) (n : Nat) (h : ∀ c ∈ R.data.toList, c ≠ 0) : ∀ k, k < (R.extract 0 n).size → (((R.extract 0 n).data.toList.getD k 0).toNat : Int) ≠ 0 := by
  intro k hk
  have e : (R.extract 0 n).data.toList.length = (R.extract 0 n).size := by simp
  have hl : k < (R.extract 0 n).data.toList.length := by omega
  rw [List.getD_eq_getElem?_getD, List.getElem?_eq_getElem hl]
  have hm : (R.extract 0 n).data.toList[k] ∈ R.data.toList := by
    have hx : ∀ x, x ∈ (R.extract 0 n).data.toList → x ∈ R.data.toList := fun x hx => by
      rw [cut_list] at hx
      exact List.mem_of_mem_take hx
    exact hx _ (List.getElem_mem hl)
  intro hc
  apply h _ hm
  apply UInt8.toNat.inj
  simp at hc ⊢
  exact hc
theorem eta_string (T : ByteArray) : (⟨T.data.toList.toArray⟩ : ByteArray) = T := by cases T; simp
theorem good4 (w : World) (t : TypeId) : Calls Tryd.prog 11 #[.slice (some ⟨w.heap.size, 0, none⟩) 4 4] (w.alloc (.cells #[.int .i64 0, .int .i64 0, .int .i64 0, .int .i64 0] t)) fun e w' => e = .returned (.bool true) ∧ w.alloc (.cells #[.int .i64 0, .int .i64 0, .int .i64 0, .int .i64 0] t) = w' :=
  good_any w.heap.size 4 [0, 0, 0, 0] _ (by decide) (fun i hi => by
    have hh := (has_new w [.int .i64 0, .int .i64 0, .int .i64 0, .int .i64 0] t).2
    have : i = 0 ∨ i = 1 ∨ i = 2 ∨ i = 3 := by simp at hi; omega
    rcases this with rfl | rfl | rfl | rfl <;> exact hh _ _ rfl)
attribute [local go_sem ↓] app32_eq
set_option maxRecDepth 100000 in
set_option maxHeartbeats 1000000 in
theorem edge_any {w : World} {s : ByteArray} {k m : Int} (hm : w.cell? ⟨0, 0, none⟩ = some (.int .i64 m)) (hs : s.size ≤ 140737488355328) : Calls Tryd.prog 3 #[.string s, .int .i64 k] w fun e w' => e = .returned (.bool true) ∧ Below w.heap.size w w' := by
  have hb0 := World.block_lt_of_cell? w _ hm
  have HDO := Lib.hid (fun (wx : World) (hb : Below w.heap.size w wx) => dots_any s wx hs)
  have hnew := new_is w
  have HN := Lib.hid hnew
  have hmk := make_is (w := newed w) (M := w.heap.size + 1) ((newed_has w).2 4 _ rfl) (by rw [newed_size]; omega) (newed_map w) (by rw [newed_size]; omega)
  rw [newed_size] at hmk
  have HMK := Lib.hid hmk
  have HD0 := Lib.hid (newed_below w)
  obtain ⟨ad, had⟩ : ∃ ad, ad = k % 928 := ⟨_, rfl⟩
  have ha0 : 0 ≤ ad := by omega
  have ha1 : ad < 928 := by omega
  have HAD := Lib.hid had
  clear hm hb0 hnew hmk had
  go_enter Tryd.func3, Tryd.ntmps3
  go_upto_region 4 with (go_at_call 4; refine HN.out.mono ?_; rintro e1 w1 ⟨rfl, rfl⟩)
  rw [newed_eq]
  go_upto_region 5 with (go_at_call 5; refine HMK.out.mono ?_; rintro e2 w2 ⟨rfl, om, sm, gr⟩)
  have h2 := mem_made om sm gr (by have := sm.lt; omega) (ad / 16)
  have HB2 := Lib.hid (show Below w.heap.size w w2 from HD0.out.trans ⟨gr.os, gr.tape, gr.output, gr.size, fun i hi => gr.block i (by rw [newed_size]; omega) (by simp; omega)⟩)
  have HM2 := Lib.hid h2
  clear om sm gr h2 HMK HN HD0
  go_upto_region 6 with (go_at_call 6; refine (within_any k 928 _ (by decide) (by decide)).mono ?_; rintro e3 w3 ⟨rfl, rfl⟩; rw [← HAD.out])
  have q0 := tdiv16 ha0
  have hlo0 : 0 ≤ ad / 16 := by omega
  have hlo1 : ad / 16 < 58 := by omega
  have HMAP := Lib.hid (map_is HM2.out hlo0 (by omega))
  have HLOW := Lib.hid (HM2.out)
  obtain ⟨fi, hfi⟩ : ∃ fi, fi = ad / 16 := ⟨_, rfl⟩
  have HFI := Lib.hid hfi
  rw [← hfi] at q0 hlo0 hlo1 HMAP
  have y3 : IntKind.i64.wrap fi = fi := IntWalk.i64_in _ (by omega)
  clear hfi
  go_upto_region 7 with (go_at_call 7; refine HMAP.out.mono ?_; rintro e4 w4 ⟨rfl, Z', tag', pv', pg', hsi⟩)
  have HB4 := Lib.hid (HB2.out.trans (hsi.turn.below HB2.out.size (fun b hb => tag3_low hb)))
  have HLOW := Lib.hid (show ∀ b, b < w.heap.size → tag' b = 0 from fun b hb => (hsi.old b (Nat.lt_of_lt_of_le hb HB2.out.size)).trans (tag3_low hb))
  have HS := Lib.hid hsi.mem
  have HD4 := Lib.hid (HDO.out w4 HB4.out)
  clear hsi HDO HB2 HM2 HMAP
  go_upto_region 8 with (go_at_call 8; refine HD4.out.mono ?_; rintro e5 w5 ⟨rfl, hb5⟩)
  have HB5 := Lib.hid (HB4.out.trans (hb5.mono HB4.out.size))
  have HS5 := Lib.hid (HS.out.keep hb5)
  have hR : (dotsB s).size ≤ 140737488355328 := by rw [dotsB_size]; exact hs
  have HNZ := Lib.hid (dots_ne s.data.toList)
  have HRE := Lib.hid (show (dotsB s).data.toList = dots s.data.toList from rfl)
  clear hb5 HS HB4 HD4
  generalize dotsB s = R at *
  rw [← HRE.out] at HNZ
  clear HRE
  go_upto_region 9 with fail
  obtain ⟨q, hq⟩ : ∃ q, q = min (R.size : Int) 64 := ⟨_, rfl⟩
  have hq0 : 0 ≤ q ∧ q ≤ 64 ∧ q ≤ R.size := by omega
  have HT64 := cut_size R hq0.1 hq0.2.1
  have HTN := cut_ne R q.toNat HNZ.out
  rw [← hq]
  clear hq hR HNZ
  generalize R.extract 0 q.toNat = T at *
  have HN0 := Lib.hid HTN
  have kc := Lib.run_convert_string_bytes (P := Tryd.prog) w5 9 32 5 T Tryd.underlying9 Tryd.underlying32 Tryd.underlying5
  obtain ⟨v6, w6, hap, b, cap, rfl, hc1, hc2, hc3, hc4, hc5, hb6⟩ := append0 w5 T HT64
  rw [app32_eq] at hap
  have HS6 := HS5.out.keep hb6
  have hxl : (bytesI T.data.toList ++ [0]).length = T.size + 1 := by simp [bytesI_len]
  have hll : T.data.toList.length = T.size := by simp
  have hwr := write_is HS6 (ad := ad) (b := b) (off := 0) (cap := cap) (xs := bytesI T.data.toList ++ [0]) hc4 (HS5.out.tz b (Nat.le_trans HS5.out.zle hc3)) (by omega) hc2 (fun i hi => by rw [Nat.zero_add]; exact hc5 i (by omega)) (by omega) (by omega) hlo0 ha0 (by omega) (by rw [HFI.out]; exact Int.le_refl _) (by rw [hxl, HFI.out]; omega) (by decide)
  rw [hxl] at hwr
  have htx := fun (wx : World) (hx : Mem Z' tag' wx (w.heap.size + 1) w.heap.size (w.heap.size + 2) pv' pg' 6 fi (laidT fi ad (bytesI T.data.toList ++ [0]) (fun _ _ => 0) (T.size + 1))) =>
    text_is hx (ad := ad) (l := T.data.toList) (by omega) (fun j hj => (laidT_get _ _ ha0 (by rw [HFI.out]; exact Int.le_refl _) _ j (by omega)).trans (bytesI_get _ j hj)) (fun j hj => HN0.out j (by omega))
      ((laidT_get _ _ ha0 (by rw [HFI.out]; exact Int.le_refl _) _ _ (by omega)).trans (bytesI_end _)) hlo0 ha0 (by omega) (by rw [HFI.out]; exact Int.le_refl _) (by rw [HFI.out]; omega)
  have htn := fun (wx : World) (hx : Mem Z' tag' wx (w.heap.size + 1) w.heap.size (w.heap.size + 2) pv' pg' 6 fi (laidT fi ad (bytesI T.data.toList ++ [0]) (fun _ _ => 0) (T.size + 1))) =>
    text_no hx (ad := fi * 16 + 96) (by omega) (by omega) (by omega)
  have HWR := Lib.hid hwr
  have HTX := Lib.hid htx
  have HTN2 := Lib.hid htn
  have HB6 := Lib.hid (HB5.out.trans (hb6.mono HB5.out.size))
  generalize laidT fi ad (bytesI T.data.toList ++ [0]) (fun _ _ => 0) (T.size + 1) = dt at *
  have y4 : IntKind.u32.wrap ad = ad := IntWalk.u32_in _ (by omega)
  have y5 : IntKind.i64.wrap (fi * 16) = fi * 16 := IntWalk.i64_in _ (by omega)
  have y6 : IntKind.i64.wrap (fi * 16 + 96) = fi * 16 + 96 := IntWalk.i64_in _ (by omega)
  have y7 : IntKind.u32.wrap (fi * 16 + 96) = fi * 16 + 96 := IntWalk.u32_in _ (by omega)
  clear hxl hll hwr htx htn HS6 hc1 hc2 hc3 hc4 hc5 hb6 HTN HT64 HS5 HB5 hq0
  go_upto_region 10 with (go_at_call 9; refine HWR.out.mono ?_; rintro e7 w7 ⟨rfl, hm7, ht7⟩)
  have hx7 := HTX.out w7 hm7
  rw [eta_string T] at hx7
  have HX7 := Lib.hid hx7
  have HT7 := Lib.hid (ht7.below (B := w.heap.size) HB6.out.size HLOW.out)
  clear hm7 ht7 hx7 HTX HWR
  go_upto_region 11 with (go_at_call 10; refine HX7.out.mono ?_; rintro e8 w8 ⟨rfl, hm8, ht8⟩)
  have HB7 := Lib.hid (HB6.out.trans HT7.out)
  have HB8 := Lib.hid (HB7.out.trans (ht8.below (B := w.heap.size) HB7.out.size HLOW.out))
  have HN8 := Lib.hid (HTN2.out w8 hm8)
  clear hm8 ht8 HTN2 HX7 HT7 HB6 HB7
  go_upto_region 12 with (go_at_call 10; refine HN8.out.mono ?_; rintro e9 w9 ⟨rfl, hb9⟩)
  have HB9 := Lib.hid (HB8.out.trans (hb9.mono HB8.out.size))
  clear hb9 HN8 HB8
  go_wp2_with (go_at_call 11; refine (good4 w9 _).mono ?_; rintro e10 w10 ⟨rfl, rfl⟩)
  go_ret
  exact ⟨rfl, HB9.out.alloc HB9.out.size _⟩
end Go.Proofs.YtopadiofanaaiaaDoor
