/- The walk of wheel.Step at any timers. The walk of wheel.Step at any timers. The walk of kernel.Tick where nobody sleeps. -/
import Derived.Test.YtnmlapiekfkbaaaGreatDoorSlB
import Derived.BigQuiet
import Derived.Test.YtnmlapiekfkbaaaGreatDoorWhA
import Derived.Test.YtnmlapiekfkbaaaGreatDoorTpE
import Derived.Test.YtnmlapiekfkbaaaGreatDoorKerG
namespace Go.Proofs.YtnmlapiekfkbaaaGreatDoor
open Go.RowKit
set_option linter.unusedVariables false
set_option linter.unusedSimpArgs false
attribute [local go_sem ↓] apTM_eq
theorem tmC_len (l : List (Int × Int)) : (tmC l).length = l.length * 2 := by
  induction l with
  | nil => rfl
  | cons a t ih => simp only [tmC, List.flatMap_cons, List.length_append, List.length_cons, List.length_nil] at ih ⊢; omega
theorem tmC_one (l : List (Int × Int)) : ∀ u ∈ tmC l, u.oneCell' = true := by
  intro u hu
  obtain ⟨x, -, hx⟩ := List.mem_flatMap.1 hu
  simp only [List.mem_cons, List.not_mem_nil, or_false] at hx
  rcases hx with rfl | rfl <;> rfl
def bsTM (ps : Array (Nat × Value)) : Sem Value := Instr.buildSlice 148 0 ps
theorem bs_tm (ps : Array (Nat × Value)) : Instr.buildSlice 148 0 ps = bsTM ps := rfl
theorem bsTM_run (w : World) : (bsTM #[]).run Tryz.prog w = .ok (.slice (some ⟨w.heap.size, 0, none⟩) 0 0) (w.alloc (.cells #[] 152)) := by kernel_rfl
attribute [local go_sem ↓] bs_tm
set_option maxRecDepth 100000 in
set_option maxHeartbeats 400000 in
theorem cloneT_is {w : World} {a : Addr} {c : Nat} {l : List (Int × Int)} (hl : l.length ≤ 1000) (hs : ∀ j u, (tmC l)[j]? = some u → w.cell? (a.add j) = some u) : Calls Tryz.prog 67 #[.slice (some a) l.length c] w fun e w' => ∃ q c', e = .returned (.slice q l.length c') ∧ w'.ownsRow w.heap.size 152 2 (.slice q l.length c') l.length (tmC l) ∧ Below w.heap.size w w' := by
  have he : (binOp .eql 148 (.slice (some a) l.length c) (.slice none 0 0)).run Tryz.prog w = .ok (.bool false) w := by kernel_rfl
  have hal := Go.Joins.below_alloc1 w (.cells #[] 152)
  have hbs := bsTM_run w
  obtain ⟨i0, i1, hz0, hz1, hz2⟩ := info_parts infoTM
  have hlt : ∀ j u, (tmC l)[j]? = some u → (w.alloc (.cells #[] 152)).cell? (a.add j) = some u := fun j u hj => by
    have h1 := hs j u hj
    exact (hal.cell (World.block_lt_of_cell? w _ h1)).trans h1
  have hown : (w.alloc (.cells #[] 152)).ownsRow w.heap.size 152 2 (.slice (some ⟨w.heap.size, 0, none⟩) 0 0) 0 [] := ⟨rfl, .inr ⟨w.heap.size, 0, #[], rfl, Nat.le_refl _, heap_alloc_new w _, Nat.le_refl _, by decide, rfl, rfl⟩⟩
  obtain ⟨v', w', hr, ho, hg, -⟩ := run_append_fresh (P := Tryz.prog) (w.alloc (.cells #[] 152)) w.heap.size 148 148 152 i0 (.agg #[.int .u32 0, .int .i64 0]) 2 16 Tryz.underlying148 i1 hz0 hz1 hz2 rfl (by decide) (.slice (some ⟨w.heap.size, 0, none⟩) 0 0) 0 [] hown a l.length c (tmC l) (tmC_len l) hlt (tmC_one l) (by unfold maxLen; omega) (by omega) hal.size
  rw [Nat.zero_add, List.nil_append] at ho
  obtain ⟨q, c', rfl⟩ := own_form ho
  have hap : (apTM #[.slice (some ⟨w.heap.size, 0, none⟩) 0 0, .slice (some a) l.length c]).run Tryz.prog (w.alloc (.cells #[] 152)) = .ok (.slice q l.length c') w' := hr
  have HO := Lib.hid ho
  have HB := Lib.hid (hal.trans ((Below.refl w.heap.size _).grown hg hal.size (fun k e => by
    have e : some w.heap.size = some k := e
    injection e with e
    omega)))
  clear hs hlt hown hr ho hg hz0 hz1 hz2 i1 hal hl
  go_enter Tryz.func67, Tryz.ntmps67
  go_wp2_with fail
  go_ret
  exact ⟨q, c', rfl, HO.out, HB.out⟩
end Go.Proofs.YtnmlapiekfkbaaaGreatDoor
namespace Go.Proofs.YtnmlapiekfkbaaaGreatDoor
open Go.RowKit
set_option linter.unusedVariables false
set_option linter.unusedSimpArgs false
theorem infoIW : (Tryz.prog.info? 3).map (fun i => (i.zero, i.size, i.bytes)) = some (some (.int .i64 0), 1, 8) := by kernel_rfl
def iV (x : Int) : Value := .int .i64 x
def apW := Builtin.append_ #[58, 58] 58
theorem apW_eq : Builtin.append_ #[58, 58] 58 = apW := rfl
theorem apW_push {w : World} {B n : Nat} {v : Value} {l : List Int} (h : w.ownsRow B 3 1 v n (l.map iV)) (hB : B ≤ w.heap.size) (x : Int) (h64 : n < 100000) :
    ∃ q c w', (apW #[v, .slice (some ⟨w.heap.size, 0, none⟩) 1 1]).run Tryz.prog (w.alloc (.cells #[.int .i64 x] 3)) = .ok (.slice q (n + 1) c) w' ∧ w'.ownsRow B 3 1 (.slice q (n + 1) c) (n + 1) ((l ++ [x]).map iV) ∧ Below B w w' := by
  have hal := (Below.refl B w).alloc hB (.cells #[.int .i64 x] 3)
  obtain ⟨i0, hi, hz0, hz1, hz2⟩ := info_parts infoIW
  obtain ⟨v', w', hr, ho, hg, -⟩ := run_append_fresh (P := Tryz.prog) (w.alloc (.cells #[.int .i64 x] 3)) B 58 58 3 i0 (.int .i64 0) 1 8 Tryz.underlying58 hi hz0 hz1 hz2 rfl (by decide) v n (l.map iV) (owns_keep h (Go.Joins.below_alloc1 w _)) ⟨w.heap.size, 0, none⟩ 1 1 [.int .i64 x] rfl (cells1_new w (.int .i64 x) 3) (by simp [Value.oneCell']) (by unfold maxLen; omega) (by omega) (Nat.le_trans hB hal.size)
  obtain ⟨q, c, rfl⟩ := own_form ho
  refine ⟨q, c, w', hr, ?_, hal.trans ((Below.refl B _).grown hg (Nat.le_trans hB hal.size) (fun g hgg => (h.lt g hgg).1))⟩
  rw [List.map_append]
  exact ho
def slTm (x : Value) (a b c : Option Value) : Sem Value := Instr.sliceAt 148 x a b c
theorem sl_tim (x : Value) (a b c : Option Value) : Instr.sliceAt 148 x a b c = slTm x a b c := rfl
def behindT (bl lo cap : Nat) : Addr := if cap = lo then ⟨bl, 0, none⟩ else ⟨bl, lo * 2, none⟩
theorem slT_tail {bl L cap lo : Nat} (h1 : lo ≤ L) (hc : L ≤ cap) (w : World) : (slTm (.slice (some ⟨bl, 0, none⟩) L cap) (some (.int .i64 lo)) none none).run Tryz.prog w = .ok (.slice (some (behindT bl lo cap)) (L - lo) (cap - lo)) w := by
  have e1 : (lo : Int) ≤ (L : Int) := by omega
  have e2 : (L : Int) ≤ (cap : Int) := by omega
  have e3 : L ≤ cap := by omega
  simp [slTm, Instr.sliceAt, Instr.slice, Instr.sliceBounds, Instr.sliceBound, asIntOf, run_underlying Tryz.underlying148, e1, e2, e3, h1, go_sem, behindT]
  (try (split <;> rfl))
/-- how many timers are due -/
def dueN (x : Int) : List (Int × Int) → Nat
  | [] => 0
  | t :: l => if t.1 ≤ x then dueN x l + 1 else 0
theorem dueN_le (x : Int) : ∀ l, dueN x l ≤ l.length
  | [] => Nat.le_refl _
  | t :: l => by
    unfold dueN
    have := dueN_le x l
    split
    · simp; omega
    · simp
theorem dueN_at (x : Int) : ∀ (l : List (Int × Int)) (k : Nat) (t : Int × Int), k ≤ dueN x l → l[k]? = some t → (t.1 ≤ x ↔ k < dueN x l)
  | [], k, t, hk, ht => by simp at ht
  | a :: l, 0, t, hk, ht => by
    have e : a = t := by simpa using ht
    subst e
    unfold dueN
    by_cases h : a.1 ≤ x
    · rw [if_pos h]; exact ⟨fun _ => by omega, fun _ => h⟩
    · rw [if_neg h]; exact ⟨fun q => absurd q h, fun q => by omega⟩
  | a :: l, k + 1, t, hk, ht => by
    have ht : l[k]? = some t := by simpa using ht
    unfold dueN at hk ⊢
    by_cases h : a.1 ≤ x
    · rw [if_pos h] at hk ⊢
      have := dueN_at x l k t (by omega) ht
      rw [this]
      omega
    · rw [if_neg h] at hk; omega
theorem tmC_at (l : List (Int × Int)) {k : Nat} {t : Int × Int} (h : l[k]? = some t) : (tmC l)[k * 2]? = some (.int .u32 t.1) ∧ (tmC l)[k * 2 + 1]? = some (.int .i64 t.2) := by
  induction l generalizing k with
  | nil => simp at h
  | cons a l ih =>
    cases k with
    | zero =>
      have e : a = t := by simpa using h
      subst e
      exact ⟨rfl, rfl⟩
    | succ k =>
      have h : l[k]? = some t := by simpa using h
      obtain ⟨h1, h2⟩ := ih h
      rw [show (k + 1) * 2 = k * 2 + 2 by omega]
      exact ⟨h1, h2⟩
theorem tmC_drop (l : List (Int × Int)) (n : Nat) : tmC (l.drop n) = (tmC l).drop (n * 2) := by
  induction n generalizing l with
  | zero => rfl
  | succ n ih =>
    cases l with
    | nil => simp [tmC]
    | cons a l =>
      rw [show (n + 1) * 2 = n * 2 + 2 by omega]
      exact ih l
theorem WhlG.keepB {w w' : World} {b : Nat} {nw : Int} {v : Value} {l : List (Int × Int)} (h : WhlG w b nw v l) (hb : Below w.heap.size w w') : WhlG w' b nw v l := h.upd (S := fun _ => False) (Upd.below hb) (fun _ _ e => e)
/-- who is due -/
def dueI (x : Int) (l : List (Int × Int)) : List Int := (l.take (dueN x l)).map (·.2)
attribute [local go_sem ↓] apW_eq sl_tim
set_option maxRecDepth 100000 in
set_option maxHeartbeats 2000000 in
theorem wstepT_is {w : World} {Wh g cap : Nat} {a x : Int} {l : List (Int × Int)} (h : WhlG w Wh a (.slice (some ⟨g, 0, none⟩) l.length cap) l) (a0 : 0 ≤ a) (ax : a ≤ x) (x1 : x < 1000000000) (hl : l.length ≤ 1000) (ht : ∀ (k : Nat) (t : Int × Int), l[k]? = some t → 0 ≤ t.1 ∧ t.1 < 1000000000) :
    Calls Tryz.prog 25 #[.pointer (some ⟨Wh, 0, none⟩), .int .u32 x] w fun e w' => ∃ out v', e = .returned (.tuple #[out, .int .i64 0]) ∧ w'.ownsRow w.heap.size 3 1 out (dueN x l) ((dueI x l).map iV) ∧ WhlG w' Wh x v' (l.drop (dueN x l)) ∧ Upd (fun j => j = Wh) w w' ∧ (∀ j, v'.ownBlock = some j → w.heap.size ≤ j ∧ out.ownBlock ≠ some j) := by
  have HH := Lib.hid h
  have c0 := h.row.cell 0
  have HF := Lib.hid (far_is a0 (by omega) (by omega : 0 ≤ x) x1 w)
  have i0 : ¬ x - a < 0 := by omega
  have HA := Lib.hid (And.intro a0 (And.intro ax x1))
  have HT := Lib.hid ht
  obtain ⟨L, hL⟩ : ∃ L, L = l.length := ⟨_, rfl⟩
  have HLN := Lib.hid hL
  have HCAP : Hid (L ≤ cap) := Lib.hid (by
    rcases h.own.2 with ⟨e, _⟩ | ⟨g', c', cur, e, _, _, hlc, _⟩
    · cases e
    · have e : (.slice (some ⟨g, 0, none⟩) l.length cap : Value) = .slice (some ⟨g', 0, none⟩) l.length c' := e
      injection e with _ _ e
      rw [hL, e]
      exact hlc)
  have HL : Hid (l.length ≤ 1000) := Lib.hid hl
  have HC : Hid (∀ wx, WhlG wx Wh a (.slice (some ⟨g, 0, none⟩) l.length cap) l → ∀ j u, (tmC l)[j]? = some u → wx.cell? ⟨g, j, none⟩ = some u) := Lib.hid fun wx hx j u hj => by
    have := hx.own.cells (g := g) rfl j u hj
    rw [Addr.add_lit, Nat.zero_add] at this
    exact this
  obtain ⟨n, hn⟩ : ∃ n, n = dueN x l := ⟨_, rfl⟩
  have HN := Lib.hid hn
  have n1 : n ≤ L := by rw [hn, hL]; exact dueN_le x l
  have L1 : (L : Int) ≤ 1000 := by omega
  rw [← hL] at HC
  clear h a0 ax x1 ht hl hL hn
  go_enter Tryz.func25, Tryz.ntmps25
  go_upto_region 6 with (go_at_call 66; refine HF.out.mono ?_; rintro e1 w1 ⟨rfl, rfl⟩)
  clear HF c0
  go_loopw [7, 8] (fun kv ov wr => ∃ k : Nat, k ≤ n ∧ kv = .int .i64 k ∧ Hid (wr.ownsRow w.heap.size 3 1 ov k (((l.take k).map (·.2)).map iV)) ∧ Hid (Below w.heap.size w wr)) (fun kv _ _ => n - (intOf kv).toNat)
  case atStart => exact ⟨0, Nat.zero_le _, rfl, Lib.hid (World.ownsRow_nil _ _ _ _), Lib.hid (Below.refl _ _)⟩
  case round =>
    obtain ⟨k, hk0, rfl, HO, HB⟩ := hrel
    have hW := HH.out.keepB HB.out
    rw [← HLN.out] at hW
    have hcell := HC.out wr hW
    have c0 := hW.row.cell 0
    have c1 := hW.row.cell 1
    have hlt : ∀ t, l[k]? = some t → 0 ≤ t.1 ∧ t.1 < 1000000000 := HT.out k
    by_cases hk : k < n
    · have hkL : k < L := by omega
      have i1 : (k : Int) < L := by omega
      obtain ⟨t, ht⟩ : ∃ t, l[k]? = some t := ⟨l[k]'(by have := HLN.out; omega), List.getElem?_eq_getElem _⟩
      have hle : t.1 ≤ x := (dueN_at x l k t (by have := HN.out; omega) ht).2 (by have := HN.out; omega)
      obtain ⟨u0, u1⟩ := hlt t ht
      obtain ⟨m0, m1⟩ := tmC_at l ht
      have q0 := hcell _ _ m0
      have q1 := hcell _ _ m1
      have HQ1 := Lib.hid m1
      have HTK : Hid ((l.take (k + 1)).map (·.2) = (l.take k).map (·.2) ++ [t.2]) := Lib.hid (by rw [List.take_add_one, ht]; simp)
      have i2 : t.1 - a ≤ x - a := by omega
      have HT2 := Lib.hid (And.intro u0 u1)
      clear m0 m1 hW hcell hlt ht hle u0 u1
      generalize t.1 = ta at *
      generalize t.2 = tb at *
      go_upto_region 6 with fail
      go_quiet (first | (go_at_call 66; refine Calls.quiet_of_same ((far_is HA.out.1 (by have := HA.out; omega) HT2.out.1 HT2.out.2 _).mono (fun e w' h => ⟨h.1, h.2.symm⟩))))
      have hbd : Below wr.heap.size wr (wr.drewN nq) := below_drewN (Below.refl _ _) nq
      have HO2 := Lib.hid (owns_keep HO.out hbd)
      have HB2 := Lib.hid (HB.out.trans (hbd.mono HB.out.size))
      clear hbd c0 c1 q0 q1 HO HB
      generalize wr.drewN nq = wd at *
      have hW := HH.out.keepB HB2.out
      rw [← HLN.out] at hW
      have q1 := HC.out wd hW _ _ HQ1.out
      have c1 := hW.row.cell 1
      obtain ⟨q9, c9, w9, hap, ho9, hb9⟩ := apW_push HO2.out HB2.out.size tb (by omega)
      rw [← HTK.out] at ho9
      have HO9 := Lib.hid ho9
      have HB9 := Lib.hid (HB2.out.trans hb9)
      clear hW ho9 hb9 HO2 HB2
      go_wp2_with fail
      go_roundw
      case rel => exact ⟨k + 1, by omega, by go_num, HO9, HB9⟩
      case measure => simp [intOf]; omega
    · obtain rfl : k = n := by omega
      by_cases hkL : k < L
      · have i1 : (k : Int) < L := by omega
        obtain ⟨t, ht⟩ : ∃ t, l[k]? = some t := ⟨l[k]'(by have := HLN.out; omega), List.getElem?_eq_getElem _⟩
        have hle : ¬ t.1 ≤ x := fun e => by have := (dueN_at x l k t (by have := HN.out; omega) ht).1 e; have := HN.out; omega
        obtain ⟨u0, u1⟩ := hlt t ht
        obtain ⟨m0, -⟩ := tmC_at l ht
        have q0 := hcell _ _ m0
        have i2 : ¬ t.1 - a ≤ x - a := by omega
        have HT2 := Lib.hid (And.intro u0 u1)
        clear m0 hW hcell hlt ht hle u0 u1
        generalize t.1 = ta at *
        go_upto_region 6 with fail
        go_quiet (first | (go_at_call 66; refine Calls.quiet_of_same ((far_is HA.out.1 (by have := HA.out; omega) HT2.out.1 HT2.out.2 _).mono (fun e w' h => ⟨h.1, h.2.symm⟩))))
        clear q0
        have hbd : Below wr.heap.size wr (wr.drewN nq) := below_drewN (Below.refl _ _) nq
        have HO2 := Lib.hid (owns_keep HO.out hbd)
        have HB2 := Lib.hid (HB.out.trans (hbd.mono HB.out.size))
        clear hbd c0 c1 HO HB
        generalize wr.drewN nq = wd at *
        have hW := HH.out.keepB HB2.out
        rw [← HLN.out] at hW
        have hcl := cloneT_is (w := wd) (a := behindT g k cap) (c := cap - k) (l := l.drop k) (by rw [List.length_drop]; have := HL.out; omega) (fun j u hj => by
          rw [tmC_drop, List.getElem?_drop] at hj
          have hlt := (List.getElem?_eq_some_iff.1 hj).1
          rw [tmC_len] at hlt
          have hck : ¬ cap = k := by have := HCAP.out; have := HLN.out; omega
          unfold behindT
          rw [if_neg hck, Addr.add_lit]
          exact HC.out wd hW _ _ hj)
        rw [List.length_drop, ← HLN.out] at hcl
        have HCL := Lib.hid hcl
        have hsl := slT_tail (bl := g) (L := L) (cap := cap) (lo := k) (by omega) HCAP.out wd
        have c1 := hW.row.cell 1
        have HWD := Lib.hid hW
        clear hcl hW
        go_wp2_with (go_at_call 67; refine HCL.out.mono ?_; rintro e3 w3 ⟨q3, c3, rfl, ho3, hb3⟩; have HW3 := Lib.hid (HWD.out.row.keep hb3); have HB3 := Lib.hid (HB2.out.trans (hb3.mono HB2.out.size)); have HO3 := Lib.hid ho3; have HU3 := Lib.hid (owns_keep HO2.out hb3); have f0 := HW3.out.fz 0; have f1 := HW3.out.fz 1; have d0 := HW3.out.cell 0; have d1 := HW3.out.cell 1; clear ho3 hb3)
        go_ret2
        obtain ⟨v, hv⟩ : ∃ v : Value, v = .slice q3 (L - k) c3 := ⟨_, rfl⟩
        rw [← hv] at HO3 ⊢
        have hs1 := HW3.out.setCell 1 v
        have r1 := HW3.out.setRow ((#[.int .u32 a, .slice (some ⟨g, 0, none⟩) L cap] : Array Value).setIfInBounds 1 v)
        have hs2 := r1.setCell 0 (.int .u32 x)
        have hu : Upd (fun j => j = Wh) w3 ((w3.setCell ⟨Wh, 1, none⟩ v).setCell ⟨Wh, 0, none⟩ (.int .u32 x)) := (Upd.set (S := fun j => j = Wh) w3 v rfl).trans (Upd.set (S := fun j => j = Wh) _ _ rfl)
        have hne : v.ownBlock ≠ some Wh := fun e => by
          have h1 := (HO3.out.lt Wh e).1
          have h2 := HH.out.row.lt
          have := HB2.out.size
          omega
        refine ⟨u8, v, rfl, ?_, ⟨?_, ?_, hne⟩, (Upd.below HB3.out).trans hu, fun j hj => ⟨Nat.le_trans HB2.out.size (HO3.out.lt j hj).1, fun e => by
            have h1 := (HO2.out.lt j e).2
            have h2 := (HO3.out.lt j hj).1
            omega⟩⟩
        · have := hu.owns HU3.out (fun g hg e => by
            have h1 := (HU3.out.lt g hg).1
            have h2 := HH.out.row.lt
            omega)
          unfold dueI
          rw [← HN.out]
          exact this
        · rw [hs1, hs2]
          exact r1.setRow _
        · rw [← HN.out, List.length_drop, ← HLN.out]
          exact owns_base (hu.owns HO3.out (fun g hg e => hne (by rw [hg, e]))) (Nat.zero_le _)
      · obtain rfl : k = L := by omega
        clear hW hcell hlt
        have i1 : ¬ (k : Int) < k := by omega
        go_upto_region 6 with fail
        go_quiet (fail)
        have hbd : Below wr.heap.size wr (wr.drewN nq) := below_drewN (Below.refl _ _) nq
        have HO2 := Lib.hid (owns_keep HO.out hbd)
        have HB2 := Lib.hid (HB.out.trans (hbd.mono HB.out.size))
        clear hbd c0 c1 HO HB
        generalize wr.drewN nq = wd at *
        have hW := HH.out.keepB HB2.out
        rw [← HLN.out] at hW
        have hcl := cloneT_is (w := wd) (a := behindT g k cap) (c := cap - k) (l := l.drop k) (by rw [List.length_drop]; have := HL.out; omega) (fun j u hj => by
          rw [tmC_drop, List.getElem?_drop] at hj
          have hlt := (List.getElem?_eq_some_iff.1 hj).1
          rw [tmC_len] at hlt
          have hck : ¬ cap = k := by have := HCAP.out; have := HLN.out; omega
          unfold behindT
          rw [if_neg hck, Addr.add_lit]
          exact HC.out wd hW _ _ hj)
        rw [List.length_drop, ← HLN.out, Nat.sub_self] at hcl
        have HCL := Lib.hid hcl
        have hsl := slT_tail (bl := g) (L := k) (cap := cap) (lo := k) (by omega) HCAP.out wd
        rw [Nat.sub_self] at hsl
        have c1 := hW.row.cell 1
        have HWD := Lib.hid hW
        clear hcl hW
        go_wp2_with (go_at_call 67; refine HCL.out.mono ?_; rintro e3 w3 ⟨q3, c3, rfl, ho3, hb3⟩; have HW3 := Lib.hid (HWD.out.row.keep hb3); have HB3 := Lib.hid (HB2.out.trans (hb3.mono HB2.out.size)); have HO3 := Lib.hid ho3; have HU3 := Lib.hid (owns_keep HO2.out hb3); have f0 := HW3.out.fz 0; have f1 := HW3.out.fz 1; have d0 := HW3.out.cell 0; have d1 := HW3.out.cell 1; clear ho3 hb3)
        go_ret2
        obtain ⟨v, hv⟩ : ∃ v : Value, v = .slice q3 0 c3 := ⟨_, rfl⟩
        rw [← hv] at HO3 ⊢
        have hs1 := HW3.out.setCell 1 v
        have r1 := HW3.out.setRow ((#[.int .u32 a, .slice (some ⟨g, 0, none⟩) k cap] : Array Value).setIfInBounds 1 v)
        have hs2 := r1.setCell 0 (.int .u32 x)
        have hu : Upd (fun j => j = Wh) w3 ((w3.setCell ⟨Wh, 1, none⟩ v).setCell ⟨Wh, 0, none⟩ (.int .u32 x)) := (Upd.set (S := fun j => j = Wh) w3 v rfl).trans (Upd.set (S := fun j => j = Wh) _ _ rfl)
        have hne : v.ownBlock ≠ some Wh := fun e => by
          have h1 := (HO3.out.lt Wh e).1
          have h2 := HH.out.row.lt
          have := HB2.out.size
          omega
        refine ⟨u8, v, rfl, ?_, ⟨?_, ?_, hne⟩, (Upd.below HB3.out).trans hu, fun j hj => ⟨Nat.le_trans HB2.out.size (HO3.out.lt j hj).1, fun e => by
            have h1 := (HO2.out.lt j e).2
            have h2 := (HO3.out.lt j hj).1
            omega⟩⟩
        · have := hu.owns HU3.out (fun g hg e => by
            have h1 := (HU3.out.lt g hg).1
            have h2 := HH.out.row.lt
            omega)
          unfold dueI
          rw [← HN.out]
          exact this
        · rw [hs1, hs2]
          exact r1.setRow _
        · rw [← HN.out, List.length_drop, ← HLN.out, Nat.sub_self]
          exact owns_base (hu.owns HO3.out (fun g hg e => hne (by rw [hg, e]))) (Nat.zero_le _)
end Go.Proofs.YtnmlapiekfkbaaaGreatDoor
namespace Go.Proofs.YtnmlapiekfkbaaaGreatDoor
open Go.RowKit
set_option linter.unusedVariables false
set_option linter.unusedSimpArgs false
section
variable {w w0 w1 w2 : World} {k : KC} {s s0 s' : KSt} {p : Nat}
/-- another run, with what may be said of the rest -/
theorem KG.run {ad' : Option Addr} {cap' : Nat} {l' : List Tk} {tk' : Int} (h : KG s0 k w w1 s) (hr : RunG w2 k.R ad' cap' s.nc tk' (onePin s.nc) l') (hu : Upd (rS k.R s.ad) w1 w2) (hB : ∀ j, rS k.R ad' j → rS k.R s.ad j ∨ w1.heap.size ≤ j) : ∃ tag', KG s0 k w w2 { s with ad := ad', cap := cap', l := l', tk := tk', tag := tag' } :=
  ⟨_, h.step (h.kt.run hr hu hB) hu (fun j e => by rw [h.kt.tR j e]; decide) (fun j e => by
    rcases Nat.lt_or_ge j w1.heap.size with q | q
    · have e : tg s.tag w1.heap.size (rS k.R ad') 5 j ≠ 0 := e
      rw [tg_old q] at e; exact .inl e
    · exact .inr q)⟩
/-- another wheel -/
theorem KG.whl {nw' : Int} {v' : Value} {l' : List (Int × Int)} (h : KG s0 k w w1 s) (hw : WhlG w2 k.Wh nw' v' l') (hu : Upd (wB k.Wh s.wv) w1 w2) (hB : ∀ j, wB k.Wh v' j → wB k.Wh s.wv j ∨ w1.heap.size ≤ j) : ∃ tag', KG s0 k w w2 { s with wn := nw', wv := v', wl := l', tag := tag' } :=
  ⟨_, h.step (h.kt.whl hw hu hB) hu (fun j e => by rw [h.kt.tWh j e]; decide) (fun j e => by
    rcases Nat.lt_or_ge j w1.heap.size with q | q
    · have e : tg s.tag w1.heap.size (wB k.Wh v') 2 j ≠ 0 := e
      rw [tg_old q] at e; exact .inl e
    · exact .inr q)⟩
/-- a cell of the kernel behind its pointers, no task's directory -/
theorem KG.cell (h : KG s0 k w w1 s) {i : Nat} (h8 : 8 ≤ i) (hi : i < 655) (hd : ∀ p : Nat, i ≠ 8 + p * 38 + 17) (v : Value) : KG s0 k w (w1.setCell ⟨k.K, i, none⟩ v) { s with c := upV s.c i v } := by
  have hu : Upd (fun j => j = k.K) w1 (w1.setCell ⟨k.K, i, none⟩ v) := Upd.set _ _ rfl
  have hc : ∀ j, j ≠ i → upV s.c i v j = s.c j := fun j hj => by unfold upV; rw [if_neg hj]
  refine h.step (h.kt.cells (h.kt.kr.set hi v) hu (fun j hj => hc j (by omega)) (fun _ _ => rfl) (fun j hj => h.kt.tz j (Nat.le_trans hu.size hj)) (fun p b hb => ?_)) hu (fun j e => by rw [e, h.kt.tK]; decide) (fun j e => .inl e)
  obtain ⟨⟨cp, h1⟩, h2, h3, h4⟩ := h.kt.cw p b hb
  have hbK : b ≠ k.K := fun e => by rw [e, h.kt.tK] at h4; exact absurd h4 (by decide)
  exact ⟨⟨cp, by rw [hc _ (fun e => hd p e.symm)]; exact h1⟩, (hu.cell h3 hbK).trans h2, Nat.lt_of_lt_of_le h3 hu.size, h4⟩
/-- what Tick asks for -/
structure MayTick (s : KSt) (nw : Int) (b : Int) : Prop where
  c0 : s.c 0 = .int .i64 s.nc
  c9 : s.c 654 = .int .u32 nw
  wv : s.wv = .slice none 0 0
  wl : s.wl = []
  n0 : 0 ≤ s.wn
  n1 : s.wn ≤ nw
  n2 : nw < 100000000
  t0 : 0 ≤ s.tk
  t1 : s.tk < 900000
  v : VOk b s.l
  b1 : b < 100000000000
set_option maxRecDepth 100000 in
set_option maxHeartbeats 2000000 in
theorem ktick_is (h : KT w k s) {nw b : Int} (hm : MayTick s nw b) : Calls Tryz.prog 9 #[.pointer (some ⟨k.K, 0, none⟩)] w fun e w' => e = .returned (.tuple #[]) ∧ ∃ tag', KG s k w w' { s with c := upV s.c 654 (.int .u32 (nw + 1)), wn := nw + 1, l := tickAll s.l s.nc s.nc, tk := s.tk + s.nc, tag := tag' } := by
  have y1 : (nw + 1) % 4294967296 = nw + 1 := by have := hm.n0; have := hm.n1; have := hm.n2; omega
  have q9 : w.cell? ⟨k.K, 654, none⟩ = some (.int .u32 nw) := by rw [h.kr.cell (by decide), hm.c9]
  have f9 := h.kr.fz 654
  have HG0 := Lib.hid (h.start.cell (i := 654) (by decide) (by decide) (fun p => by omega) (.int .u32 (nw + 1)))
  have HM := Lib.hid hm
  clear h hm
  go_enter Tryz.func9, Tryz.ntmps9
  go_upto_region 1 with fail
  generalize hW1 : w.setCell ⟨k.K, 654, none⟩ (.int .u32 (nw + 1)) = W1 at *
  clear hW1 q9 f9 y1
  have HG1 := Lib.hid (HG0.out.keep (Below.refl _ _).drew)
  have HWR : Hid (Row W1.drew k.Wh 150 #[.int .u32 s.wn, .slice none 0 0]) := Lib.hid (by
    have := HG1.out.kt.wh.row
    rw [show ({ s with c := upV s.c 654 (.int .u32 (nw + 1)) } : KSt).wv = .slice none 0 0 from HM.out.wv] at this
    exact this)
  have HWS := Lib.hid (wstep0_is HWR.out HM.out.n0 (show s.wn ≤ nw + 1 by have := HM.out.n1; omega) (by have := HM.out.n2; omega))
  have hkr := HG1.out.kt.kr
  have d5 : W1.drew.cell? ⟨k.K, 5, none⟩ = some (.pointer (some ⟨k.Wh, 0, none⟩)) := by rw [hkr.cell (by decide), HG1.out.kt.c5]
  have d9 : W1.drew.cell? ⟨k.K, 654, none⟩ = some (.int .u32 (nw + 1)) := by
    rw [hkr.cell (by decide)]
    rfl
  have HD0 : Hid (W1.drew.cell? ⟨k.K, 5, none⟩ = some (.pointer (some ⟨k.Wh, 0, none⟩)) ∧ W1.drew.cell? ⟨k.K, 654, none⟩ = some (.int .u32 (nw + 1))) := Lib.hid ⟨d5, d9⟩
  have hWn : k.Wh ≠ k.K := fun e => by
    have a := HG1.out.kt.tK
    have b := HG1.out.kt.tWh k.Wh (.inl rfl)
    rw [e, a] at b
    exact absurd b (by decide)
  have HKK : Hid (∀ w2, Upd (fun j => j = k.Wh) W1.drew w2 → w2.cell? ⟨k.K, 5, none⟩ = some (.pointer (some ⟨k.Wh, 0, none⟩)) ∧ w2.cell? ⟨k.K, 654, none⟩ = some (.int .u32 (nw + 1))) := Lib.hid fun w2 hu => ⟨(hu.cell hkr.lt (Ne.symm hWn)).trans d5, (hu.cell hkr.lt (Ne.symm hWn)).trans d9⟩
  clear hkr d5 d9 hWn
  go_region_held3 (fun wx => wx.cell? ⟨k.K, 5, none⟩ = some (.pointer (some ⟨k.Wh, 0, none⟩)) ∧ wx.cell? ⟨k.K, 654, none⟩ = some (.int .u32 (nw + 1))) (first | assumption | exact HD0.out | go_keep)
    (first | (go_at_call 25; (with_reducible refine HWS.out.mono ?_); rintro e2 w2 ⟨rfl, hr2, hu2⟩; have hS := HKK.out w2 hu2; have HR2 := Lib.hid hr2; have HU2 := Lib.hid hu2; clear hr2 hu2) | fail)
  obtain ⟨t2, hg2⟩ := HG1.out.whl (w2 := w2) (nw' := nw + 1) (v' := s.wv) (l' := s.wl) (by
    rw [HM.out.wv, HM.out.wl]
    exact ⟨HR2.out, World.ownsRow_nil _ _ _ _, fun e => by cases e⟩) (HU2.out.mono fun j _ e => .inl e) (fun j e => .inl e)
  have HG2 := Lib.hid hg2
  clear hg2 hS HD0 HKK HR2 HU2 HWS HWR HG1 HG0
  have d0 : w2.cell? ⟨k.K, 0, none⟩ = some (.int .i64 s.nc) := by
    rw [HG2.out.kt.kr.cell (by decide)]
    show some (upV s.c 654 (.int .u32 (nw + 1)) 0) = _
    unfold upV; rw [if_neg (by decide), HM.out.c0]
  go_wp2_with fail
  refine wp_loop_rounds 1 ?_
  rw [rounds_succ]
  go_wp2_with fail
  go_loopw [40] (fun kv wr => ∃ c : Nat, c ≤ s.nc ∧ kv = .int .i64 c ∧ Hid (∃ tag', KG s k w wr { s with c := upV s.c 654 (.int .u32 (nw + 1)), wn := nw + 1, l := tickAll s.l s.nc c, tk := s.tk + c, tag := tag' })) (fun kv _ => s.nc - (intOf kv).toNat)
  case atStart => exact ⟨0, Nat.zero_le _, rfl, Lib.hid ⟨t2, by have := HG2.out; simpa [tickAll] using this⟩⟩
  case round =>
    obtain ⟨c, hc0, rfl, HR⟩ := hrel
    by_cases hc : c < s.nc
    · have i1 : (c : Int) < s.nc := by omega
      obtain ⟨tg', hg⟩ := HR.out
      have HG := Lib.hid hg
      have cn := hg.kt.cn
      have d4 : wr.cell? ⟨k.K, 4, none⟩ = some (.pointer (some ⟨k.R, 0, none⟩)) := by rw [hg.kt.kr.cell (by decide), hg.kt.c4]
      have HT := Lib.hid (tickG_is hg.kt.ru hc (by exact cn.2) (by have := HM.out.t0; show 0 ≤ s.tk + (c : Int); omega) (by have := HM.out.t1; have h4 : s.nc ≤ 4 := cn.2; show s.tk + (c : Int) < 1000000; omega) (fun i x hx => by
        have := HM.out.v.all s.nc c i x hx
        have h4 : s.nc ≤ 4 := cn.2
        have := HM.out.b1
        omega))
      have i4 : (s.nc : Int) ≤ 4 := by have h4 : s.nc ≤ 4 := cn.2; omega
      clear hg HR cn
      go_wp2_with (go_at_call 27; refine HT.out.mono ?_; rintro e3 w3 ⟨rfl, hr3, hu3⟩; have hg3 := HG.out.run hr3 hu3 (fun j e => .inl e); have HG3 := Lib.hid hg3; clear hr3 hu3 hg3)
      go_roundw
      case rel => exact ⟨c + 1, by omega, by go_num, by
        obtain ⟨t3, h3⟩ := HG3.out
        refine Lib.hid ⟨t3, ?_⟩
        have e : s.tk + ((c + 1 : Nat) : Int) = s.tk + (c : Int) + 1 := by push_cast; omega
        rw [e]
        exact h3⟩
      case measure => simp [intOf]; omega
    · obtain rfl : c = s.nc := by omega
      go_wp2_with fail
      (try simp only [Exit.inBlock, Exit.then]); first | (refine bodyPost_ret (results_none rfl _ _ _) rfl ?_) | (refine bodyPost_end (results_none rfl _ _ _) rfl ?_)
      exact ⟨rfl, HR.out⟩
end
end Go.Proofs.YtnmlapiekfkbaaaGreatDoor
