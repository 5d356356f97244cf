/- The walk of wheel.Step at any timers. The walk of slices.Insert at timers. The blocks of ringtop.TopTurnsAlone: memories, registers, programs. No walk here. -/
import Derived.Test.YtepadaleokijfaaGreatDoorSlC
import Derived.BigQuiet
import Derived.Lib.AppendZerosOnto
import Derived.Lib.Overlaps
import Derived.Laws.CopyOwn
import Derived.Test.YtepadaleokijfaaGreatDoorAlN
namespace Go.Proofs.YtepadaleokijfaaGreatDoor
open Go.RowKit
set_option linter.unusedVariables false
set_option linter.unusedSimpArgs false
theorem infoIW : (Tryz.prog.info? 3).map (fun i => (i.zero, i.size, i.bytes)) = some (some (.int .i64 0), 1, 8) := by kernel_rfl
def iV (x : Int) : Value := .int .i64 x
def apW := Builtin.append_ #[23, 23] 23
theorem apW_eq : Builtin.append_ #[23, 23] 23 = apW := rfl
theorem apW_push {w : World} {B n : Nat} {v : Value} {l : List Int} (h : w.ownsRow B 3 1 v n (l.map iV)) (hB : B ≤ w.heap.size) (x : Int) (h64 : n < 100000) :
    ∃ q c w', (apW #[v, .slice (some ⟨w.heap.size, 0, none⟩) 1 1]).run Tryz.prog (w.alloc (.cells #[.int .i64 x] 3)) = .ok (.slice q (n + 1) c) w' ∧ w'.ownsRow B 3 1 (.slice q (n + 1) c) (n + 1) ((l ++ [x]).map iV) ∧ Below B w w' := by
  have hal := (Below.refl B w).alloc hB (.cells #[.int .i64 x] 3)
  obtain ⟨i0, hi, hz0, hz1, hz2⟩ := info_parts infoIW
  obtain ⟨v', w', hr, ho, hg, -⟩ := run_append_fresh (P := Tryz.prog) (w.alloc (.cells #[.int .i64 x] 3)) B 23 23 3 i0 (.int .i64 0) 1 8 Tryz.underlying23 hi hz0 hz1 hz2 rfl (by decide) v n (l.map iV) (owns_keep h (Go.Joins.below_alloc1 w _)) ⟨w.heap.size, 0, none⟩ 1 1 [.int .i64 x] rfl (cells1_new w (.int .i64 x) 3) (by simp [Value.oneCell']) (by unfold maxLen; omega) (by omega) (Nat.le_trans hB hal.size)
  obtain ⟨q, c, rfl⟩ := own_form ho
  refine ⟨q, c, w', hr, ?_, hal.trans ((Below.refl B _).grown hg (Nat.le_trans hB hal.size) (fun g hgg => (h.lt g hgg).1))⟩
  rw [List.map_append]
  exact ho
def slTm (x : Value) (a b c : Option Value) : Sem Value := Instr.sliceAt 215 x a b c
theorem sl_tim (x : Value) (a b c : Option Value) : Instr.sliceAt 215 x a b c = slTm x a b c := rfl
def behindT (bl lo cap : Nat) : Addr := if cap = lo then ⟨bl, 0, none⟩ else ⟨bl, lo * 2, none⟩
theorem slT_tail {bl L cap lo : Nat} (h1 : lo ≤ L) (hc : L ≤ cap) (w : World) : (slTm (.slice (some ⟨bl, 0, none⟩) L cap) (some (.int .i64 lo)) none none).run Tryz.prog w = .ok (.slice (some (behindT bl lo cap)) (L - lo) (cap - lo)) w := by
  have e1 : (lo : Int) ≤ (L : Int) := by omega
  have e2 : (L : Int) ≤ (cap : Int) := by omega
  have e3 : L ≤ cap := by omega
  simp [slTm, Instr.sliceAt, Instr.slice, Instr.sliceBounds, Instr.sliceBound, asIntOf, run_underlying Tryz.underlying215, e1, e2, e3, h1, go_sem, behindT]
  (try (split <;> rfl))
/-- how many timers are due -/
def dueN (x : Int) : List (Int × Int) → Nat
  | [] => 0
  | t :: l => if t.1 ≤ x then dueN x l + 1 else 0
theorem dueN_le (x : Int) : ∀ l, dueN x l ≤ l.length
  | [] => Nat.le_refl _
  | t :: l => by
    unfold dueN
    have := dueN_le x l
    split
    · simp; omega
    · simp
theorem dueN_at (x : Int) : ∀ (l : List (Int × Int)) (k : Nat) (t : Int × Int), k ≤ dueN x l → l[k]? = some t → (t.1 ≤ x ↔ k < dueN x l)
  | [], k, t, hk, ht => by simp at ht
  | a :: l, 0, t, hk, ht => by
    have e : a = t := by simpa using ht
    subst e
    unfold dueN
    by_cases h : a.1 ≤ x
    · rw [if_pos h]; exact ⟨fun _ => by omega, fun _ => h⟩
    · rw [if_neg h]; exact ⟨fun q => absurd q h, fun q => by omega⟩
  | a :: l, k + 1, t, hk, ht => by
    have ht : l[k]? = some t := by simpa using ht
    unfold dueN at hk ⊢
    by_cases h : a.1 ≤ x
    · rw [if_pos h] at hk ⊢
      have := dueN_at x l k t (by omega) ht
      rw [this]
      omega
    · rw [if_neg h] at hk; omega
theorem tmC_at (l : List (Int × Int)) {k : Nat} {t : Int × Int} (h : l[k]? = some t) : (tmC l)[k * 2]? = some (.int .u32 t.1) ∧ (tmC l)[k * 2 + 1]? = some (.int .i64 t.2) := by
  induction l generalizing k with
  | nil => simp at h
  | cons a l ih =>
    cases k with
    | zero =>
      have e : a = t := by simpa using h
      subst e
      exact ⟨rfl, rfl⟩
    | succ k =>
      have h : l[k]? = some t := by simpa using h
      obtain ⟨h1, h2⟩ := ih h
      rw [show (k + 1) * 2 = k * 2 + 2 by omega]
      exact ⟨h1, h2⟩
theorem tmC_drop (l : List (Int × Int)) (n : Nat) : tmC (l.drop n) = (tmC l).drop (n * 2) := by
  induction n generalizing l with
  | zero => rfl
  | succ n ih =>
    cases l with
    | nil => simp [tmC]
    | cons a l =>
      rw [show (n + 1) * 2 = n * 2 + 2 by omega]
      exact ih l
theorem WhlG.keepB {w w' : World} {b : Nat} {nw : Int} {v : Value} {l : List (Int × Int)} (h : WhlG w b nw v l) (hb : Below w.heap.size w w') : WhlG w' b nw v l := h.upd (S := fun _ => False) (Upd.below hb) (fun _ _ e => e)
/-- who is due -/
def dueI (x : Int) (l : List (Int × Int)) : List Int := (l.take (dueN x l)).map (·.2)
attribute [local go_sem ↓] apW_eq sl_tim
set_option maxRecDepth 100000 in
set_option maxHeartbeats 2000000 in
theorem wstepT_is {w : World} {Wh g cap : Nat} {a x : Int} {l : List (Int × Int)} (h : WhlG w Wh a (.slice (some ⟨g, 0, none⟩) l.length cap) l) (a0 : 0 ≤ a) (ax : a ≤ x) (x1 : x < 1000000000) (hl : l.length ≤ 1000) (ht : ∀ (k : Nat) (t : Int × Int), l[k]? = some t → 0 ≤ t.1 ∧ t.1 < 1000000000) :
    Calls Tryz.prog 55 #[.pointer (some ⟨Wh, 0, none⟩), .int .u32 x] w fun e w' => ∃ out v', e = .returned (.tuple #[out, .int .i64 0]) ∧ w'.ownsRow w.heap.size 3 1 out (dueN x l) ((dueI x l).map iV) ∧ WhlG w' Wh x v' (l.drop (dueN x l)) ∧ Upd (fun j => j = Wh) w w' ∧ (∀ j, v'.ownBlock = some j → w.heap.size ≤ j ∧ out.ownBlock ≠ some j) := by
  have HH := Lib.hid h
  have c0 := h.row.cell 0
  have HF := Lib.hid (far_is a0 (by omega) (by omega : 0 ≤ x) x1 w)
  have i0 : ¬ x - a < 0 := by omega
  have HA := Lib.hid (And.intro a0 (And.intro ax x1))
  have HT := Lib.hid ht
  obtain ⟨L, hL⟩ : ∃ L, L = l.length := ⟨_, rfl⟩
  have HLN := Lib.hid hL
  have HCAP : Hid (L ≤ cap) := Lib.hid (by
    rcases h.own.2 with ⟨e, _⟩ | ⟨g', c', cur, e, _, _, hlc, _⟩
    · cases e
    · have e : (.slice (some ⟨g, 0, none⟩) l.length cap : Value) = .slice (some ⟨g', 0, none⟩) l.length c' := e
      injection e with _ _ e
      rw [hL, e]
      exact hlc)
  have HL : Hid (l.length ≤ 1000) := Lib.hid hl
  have HC : Hid (∀ wx, WhlG wx Wh a (.slice (some ⟨g, 0, none⟩) l.length cap) l → ∀ j u, (tmC l)[j]? = some u → wx.cell? ⟨g, j, none⟩ = some u) := Lib.hid fun wx hx j u hj => by
    have := hx.own.cells (g := g) rfl j u hj
    rw [Addr.add_lit, Nat.zero_add] at this
    exact this
  obtain ⟨n, hn⟩ : ∃ n, n = dueN x l := ⟨_, rfl⟩
  have HN := Lib.hid hn
  have n1 : n ≤ L := by rw [hn, hL]; exact dueN_le x l
  have L1 : (L : Int) ≤ 1000 := by omega
  rw [← hL] at HC
  clear h a0 ax x1 ht hl hL hn
  go_enter Tryz.func55, Tryz.ntmps55
  go_upto_region 6 with (go_at_call 107; refine HF.out.mono ?_; rintro e1 w1 ⟨rfl, rfl⟩)
  clear HF c0
  go_loopw [7, 8] (fun kv ov wr => ∃ k : Nat, k ≤ n ∧ kv = .int .i64 k ∧ Hid (wr.ownsRow w.heap.size 3 1 ov k (((l.take k).map (·.2)).map iV)) ∧ Hid (Below w.heap.size w wr)) (fun kv _ _ => n - (intOf kv).toNat)
  case atStart => exact ⟨0, Nat.zero_le _, rfl, Lib.hid (World.ownsRow_nil _ _ _ _), Lib.hid (Below.refl _ _)⟩
  case round =>
    obtain ⟨k, hk0, rfl, HO, HB⟩ := hrel
    have hW := HH.out.keepB HB.out
    rw [← HLN.out] at hW
    have hcell := HC.out wr hW
    have c0 := hW.row.cell 0
    have c1 := hW.row.cell 1
    have hlt : ∀ t, l[k]? = some t → 0 ≤ t.1 ∧ t.1 < 1000000000 := HT.out k
    by_cases hk : k < n
    · have hkL : k < L := by omega
      have i1 : (k : Int) < L := by omega
      obtain ⟨t, ht⟩ : ∃ t, l[k]? = some t := ⟨l[k]'(by have := HLN.out; omega), List.getElem?_eq_getElem _⟩
      have hle : t.1 ≤ x := (dueN_at x l k t (by have := HN.out; omega) ht).2 (by have := HN.out; omega)
      obtain ⟨u0, u1⟩ := hlt t ht
      obtain ⟨m0, m1⟩ := tmC_at l ht
      have q0 := hcell _ _ m0
      have q1 := hcell _ _ m1
      have HQ1 := Lib.hid m1
      have HTK : Hid ((l.take (k + 1)).map (·.2) = (l.take k).map (·.2) ++ [t.2]) := Lib.hid (by rw [List.take_add_one, ht]; simp)
      have i2 : t.1 - a ≤ x - a := by omega
      have HT2 := Lib.hid (And.intro u0 u1)
      clear m0 m1 hW hcell hlt ht hle u0 u1
      generalize t.1 = ta at *
      generalize t.2 = tb at *
      go_upto_region 6 with fail
      go_quiet (first | (go_at_call 107; refine Calls.quiet_of_same ((far_is HA.out.1 (by have := HA.out; omega) HT2.out.1 HT2.out.2 _).mono (fun e w' h => ⟨h.1, h.2.symm⟩))))
      have hbd : Below wr.heap.size wr (wr.drewN nq) := below_drewN (Below.refl _ _) nq
      have HO2 := Lib.hid (owns_keep HO.out hbd)
      have HB2 := Lib.hid (HB.out.trans (hbd.mono HB.out.size))
      clear hbd c0 c1 q0 q1 HO HB
      generalize wr.drewN nq = wd at *
      have hW := HH.out.keepB HB2.out
      rw [← HLN.out] at hW
      have q1 := HC.out wd hW _ _ HQ1.out
      have c1 := hW.row.cell 1
      obtain ⟨q9, c9, w9, hap, ho9, hb9⟩ := apW_push HO2.out HB2.out.size tb (by omega)
      rw [← HTK.out] at ho9
      have HO9 := Lib.hid ho9
      have HB9 := Lib.hid (HB2.out.trans hb9)
      clear hW ho9 hb9 HO2 HB2
      go_wp2_with fail
      go_roundw
      case rel => exact ⟨k + 1, by omega, by go_num, HO9, HB9⟩
      case measure => simp [intOf]; omega
    · obtain rfl : k = n := by omega
      by_cases hkL : k < L
      · have i1 : (k : Int) < L := by omega
        obtain ⟨t, ht⟩ : ∃ t, l[k]? = some t := ⟨l[k]'(by have := HLN.out; omega), List.getElem?_eq_getElem _⟩
        have hle : ¬ t.1 ≤ x := fun e => by have := (dueN_at x l k t (by have := HN.out; omega) ht).1 e; have := HN.out; omega
        obtain ⟨u0, u1⟩ := hlt t ht
        obtain ⟨m0, -⟩ := tmC_at l ht
        have q0 := hcell _ _ m0
        have i2 : ¬ t.1 - a ≤ x - a := by omega
        have HT2 := Lib.hid (And.intro u0 u1)
        clear m0 hW hcell hlt ht hle u0 u1
        generalize t.1 = ta at *
        go_upto_region 6 with fail
        go_quiet (first | (go_at_call 107; refine Calls.quiet_of_same ((far_is HA.out.1 (by have := HA.out; omega) HT2.out.1 HT2.out.2 _).mono (fun e w' h => ⟨h.1, h.2.symm⟩))))
        clear q0
        have hbd : Below wr.heap.size wr (wr.drewN nq) := below_drewN (Below.refl _ _) nq
        have HO2 := Lib.hid (owns_keep HO.out hbd)
        have HB2 := Lib.hid (HB.out.trans (hbd.mono HB.out.size))
        clear hbd c0 c1 HO HB
        generalize wr.drewN nq = wd at *
        have hW := HH.out.keepB HB2.out
        rw [← HLN.out] at hW
        have hcl := cloneT_is (w := wd) (a := behindT g k cap) (c := cap - k) (l := l.drop k) (by rw [List.length_drop]; have := HL.out; omega) (fun j u hj => by
          rw [tmC_drop, List.getElem?_drop] at hj
          have hlt := (List.getElem?_eq_some_iff.1 hj).1
          rw [tmC_len] at hlt
          have hck : ¬ cap = k := by have := HCAP.out; have := HLN.out; omega
          unfold behindT
          rw [if_neg hck, Addr.add_lit]
          exact HC.out wd hW _ _ hj)
        rw [List.length_drop, ← HLN.out] at hcl
        have HCL := Lib.hid hcl
        have hsl := slT_tail (bl := g) (L := L) (cap := cap) (lo := k) (by omega) HCAP.out wd
        have c1 := hW.row.cell 1
        have HWD := Lib.hid hW
        clear hcl hW
        go_wp2_with (go_at_call 108; refine HCL.out.mono ?_; rintro e3 w3 ⟨q3, c3, rfl, ho3, hb3⟩; have HW3 := Lib.hid (HWD.out.row.keep hb3); have HB3 := Lib.hid (HB2.out.trans (hb3.mono HB2.out.size)); have HO3 := Lib.hid ho3; have HU3 := Lib.hid (owns_keep HO2.out hb3); have f0 := HW3.out.fz 0; have f1 := HW3.out.fz 1; have d0 := HW3.out.cell 0; have d1 := HW3.out.cell 1; clear ho3 hb3)
        go_ret2
        obtain ⟨v, hv⟩ : ∃ v : Value, v = .slice q3 (L - k) c3 := ⟨_, rfl⟩
        rw [← hv] at HO3 ⊢
        have hs1 := HW3.out.setCell 1 v
        have r1 := HW3.out.setRow ((#[.int .u32 a, .slice (some ⟨g, 0, none⟩) L cap] : Array Value).setIfInBounds 1 v)
        have hs2 := r1.setCell 0 (.int .u32 x)
        have hu : Upd (fun j => j = Wh) w3 ((w3.setCell ⟨Wh, 1, none⟩ v).setCell ⟨Wh, 0, none⟩ (.int .u32 x)) := (Upd.set (S := fun j => j = Wh) w3 v rfl).trans (Upd.set (S := fun j => j = Wh) _ _ rfl)
        have hne : v.ownBlock ≠ some Wh := fun e => by
          have h1 := (HO3.out.lt Wh e).1
          have h2 := HH.out.row.lt
          have := HB2.out.size
          omega
        refine ⟨u8, v, rfl, ?_, ⟨?_, ?_, hne⟩, (Upd.below HB3.out).trans hu, fun j hj => ⟨Nat.le_trans HB2.out.size (HO3.out.lt j hj).1, fun e => by
            have h1 := (HO2.out.lt j e).2
            have h2 := (HO3.out.lt j hj).1
            omega⟩⟩
        · have := hu.owns HU3.out (fun g hg e => by
            have h1 := (HU3.out.lt g hg).1
            have h2 := HH.out.row.lt
            omega)
          unfold dueI
          rw [← HN.out]
          exact this
        · rw [hs1, hs2]
          exact r1.setRow _
        · rw [← HN.out, List.length_drop, ← HLN.out]
          exact owns_base (hu.owns HO3.out (fun g hg e => hne (by rw [hg, e]))) (Nat.zero_le _)
      · obtain rfl : k = L := by omega
        clear hW hcell hlt
        have i1 : ¬ (k : Int) < k := by omega
        go_upto_region 6 with fail
        go_quiet (fail)
        have hbd : Below wr.heap.size wr (wr.drewN nq) := below_drewN (Below.refl _ _) nq
        have HO2 := Lib.hid (owns_keep HO.out hbd)
        have HB2 := Lib.hid (HB.out.trans (hbd.mono HB.out.size))
        clear hbd c0 c1 HO HB
        generalize wr.drewN nq = wd at *
        have hW := HH.out.keepB HB2.out
        rw [← HLN.out] at hW
        have hcl := cloneT_is (w := wd) (a := behindT g k cap) (c := cap - k) (l := l.drop k) (by rw [List.length_drop]; have := HL.out; omega) (fun j u hj => by
          rw [tmC_drop, List.getElem?_drop] at hj
          have hlt := (List.getElem?_eq_some_iff.1 hj).1
          rw [tmC_len] at hlt
          have hck : ¬ cap = k := by have := HCAP.out; have := HLN.out; omega
          unfold behindT
          rw [if_neg hck, Addr.add_lit]
          exact HC.out wd hW _ _ hj)
        rw [List.length_drop, ← HLN.out, Nat.sub_self] at hcl
        have HCL := Lib.hid hcl
        have hsl := slT_tail (bl := g) (L := k) (cap := cap) (lo := k) (by omega) HCAP.out wd
        rw [Nat.sub_self] at hsl
        have c1 := hW.row.cell 1
        have HWD := Lib.hid hW
        clear hcl hW
        go_wp2_with (go_at_call 108; refine HCL.out.mono ?_; rintro e3 w3 ⟨q3, c3, rfl, ho3, hb3⟩; have HW3 := Lib.hid (HWD.out.row.keep hb3); have HB3 := Lib.hid (HB2.out.trans (hb3.mono HB2.out.size)); have HO3 := Lib.hid ho3; have HU3 := Lib.hid (owns_keep HO2.out hb3); have f0 := HW3.out.fz 0; have f1 := HW3.out.fz 1; have d0 := HW3.out.cell 0; have d1 := HW3.out.cell 1; clear ho3 hb3)
        go_ret2
        obtain ⟨v, hv⟩ : ∃ v : Value, v = .slice q3 0 c3 := ⟨_, rfl⟩
        rw [← hv] at HO3 ⊢
        have hs1 := HW3.out.setCell 1 v
        have r1 := HW3.out.setRow ((#[.int .u32 a, .slice (some ⟨g, 0, none⟩) k cap] : Array Value).setIfInBounds 1 v)
        have hs2 := r1.setCell 0 (.int .u32 x)
        have hu : Upd (fun j => j = Wh) w3 ((w3.setCell ⟨Wh, 1, none⟩ v).setCell ⟨Wh, 0, none⟩ (.int .u32 x)) := (Upd.set (S := fun j => j = Wh) w3 v rfl).trans (Upd.set (S := fun j => j = Wh) _ _ rfl)
        have hne : v.ownBlock ≠ some Wh := fun e => by
          have h1 := (HO3.out.lt Wh e).1
          have h2 := HH.out.row.lt
          have := HB2.out.size
          omega
        refine ⟨u8, v, rfl, ?_, ⟨?_, ?_, hne⟩, (Upd.below HB3.out).trans hu, fun j hj => ⟨Nat.le_trans HB2.out.size (HO3.out.lt j hj).1, fun e => by
            have h1 := (HO2.out.lt j e).2
            have h2 := (HO3.out.lt j hj).1
            omega⟩⟩
        · have := hu.owns HU3.out (fun g hg e => by
            have h1 := (HU3.out.lt g hg).1
            have h2 := HH.out.row.lt
            omega)
          unfold dueI
          rw [← HN.out]
          exact this
        · rw [hs1, hs2]
          exact r1.setRow _
        · rw [← HN.out, List.length_drop, ← HLN.out, Nat.sub_self]
          exact owns_base (hu.owns HO3.out (fun g hg e => hne (by rw [hg, e]))) (Nat.zero_le _)
end Go.Proofs.YtepadaleokijfaaGreatDoor
namespace Go.Proofs.YtepadaleokijfaaGreatDoor
open Go.RowKit
set_option linter.unusedVariables false
set_option linter.unusedSimpArgs false
/-- copy of elements of k cells into a row that is known whole -/
theorem run_copyN {P : Program} (w : World) (dT sT ty elem : TypeId) (k g o dLen dCap : Nat) (a : Addr) (sLen sCap : Nat) (cur : Array Value) (t : TypeId) (cs : List Value)
    (hu : P.underlying dT = some (.slice elem)) (hs : (P.info? elem).map (·.size) = some k) (hg : w.heap[g]? = some (.cells cur t (0, 0))) (hn : cs.length = Nat.min sLen dLen * k)
    (hsrc : ∀ j v, cs[j]? = some v → w.cell? (a.add j) = some v) (hfit : o + cs.length ≤ cur.size) (h1 : ∀ v ∈ cs, v.oneCell' = true) :
    (Builtin.copy_ #[dT, sT] ty #[.slice (some ⟨g, o, none⟩) dLen dCap, .slice (some a) sLen sCap]).run P w = .ok (.int .i64 (Nat.min sLen dLen)) (w.setRow g (splice cur.toList o cs).toArray) := by
  have hl := run_loadCells_list (P := P) w a cs hsrc
  have hst := run_storeCells_at P g o t cs 0 cur w hg (by simpa using hfit) h1
  cases hq : P.info? elem with
  | none => simp [hq] at hs
  | some i =>
    have hi : i.size = k := by simpa [hq] using hs
    simp [Builtin.copy_, run_underlying hu, Builtin.lenOf, Builtin.firstCells, sizeOf, typeInfo, hq, hi, ← hn, hl, hst, splice, goInt]
def cpT (ty : TypeId) := Builtin.copy_ #[215, 215] ty
theorem cpT_eq (ty : TypeId) : Builtin.copy_ #[215, 215] ty = cpT ty := rfl
def azT := Builtin.append_ #[215, 3] 215
theorem azT_eq : Builtin.append_ #[215, 3] 215 = azT := rfl
theorem cpT_run {w : World} {g o dLen dCap sLen sCap : Nat} {a : Addr} {cur : Array Value} {cs : List Value} (ty : TypeId) (hg : Row w g 259 cur) (hn : cs.length = Nat.min sLen dLen * 2) (hsrc : ∀ j v, cs[j]? = some v → w.cell? (a.add j) = some v) (hfit : o + cs.length ≤ cur.size) (h1 : ∀ v ∈ cs, v.oneCell' = true) :
    (cpT ty #[.slice (some ⟨g, o, none⟩) dLen dCap, .slice (some a) sLen sCap]).run Tryz.prog w = .ok (.int .i64 (Nat.min sLen dLen)) (w.setRow g (splice cur.toList o cs).toArray) :=
  run_copyN w _ _ ty 259 2 g o dLen dCap a sLen sCap cur _ cs Tryz.underlying215 (by kernel_rfl) hg hn hsrc hfit h1
theorem slT_at {bl L cap lo : Nat} (h1 : lo ≤ L) (h2 : lo < cap) (hc : L ≤ cap) (w : World) : (slTm (.slice (some ⟨bl, 0, none⟩) L cap) (some (.int .i64 lo)) none none).run Tryz.prog w = .ok (.slice (some ⟨bl, lo * 2, none⟩) (L - lo) (cap - lo)) w := by
  have := slT_tail (bl := bl) h1 hc w
  unfold behindT at this
  rw [if_neg (by omega)] at this
  exact this
theorem slT_upto {bl L cap hi : Nat} (h1 : hi ≤ cap) (w : World) : (slTm (.slice (some ⟨bl, 0, none⟩) L cap) none (some (.int .i64 hi)) none).run Tryz.prog w = .ok (.slice (some ⟨bl, 0, none⟩) hi cap) w := by
  have e1 : (hi : Int) ≤ (cap : Int) := by omega
  simp [slTm, Instr.sliceAt, Instr.slice, Instr.sliceBounds, Instr.sliceBound, asIntOf, run_underlying Tryz.underlying215, e1, h1, go_sem]
/-- timers with one more, at place i -/
def insL (l : List (Int × Int)) (i : Nat) (t : Int × Int) : List (Int × Int) := l.take i ++ t :: l.drop i
theorem tmC_app (a b : List (Int × Int)) : tmC (a ++ b) = tmC a ++ tmC b := by simp [tmC, List.flatMap_append]
theorem tmC_take (l : List (Int × Int)) (n : Nat) : tmC (l.take n) = (tmC l).take (n * 2) := by
  induction n generalizing l with
  | zero => simp [tmC]
  | succ n ih =>
    cases l with
    | nil => simp [tmC]
    | cons a l =>
      rw [show (n + 1) * 2 = n * 2 + 2 by omega]
      show [_, _] ++ tmC (l.take n) = List.take (n * 2 + 2) ([_, _] ++ tmC l)
      rw [ih l]
      rfl
theorem tmC_ins (l : List (Int × Int)) (i : Nat) (t : Int × Int) : tmC (insL l i t) = (tmC l).take (i * 2) ++ [.int .u32 t.1, .int .i64 t.2] ++ (tmC l).drop (i * 2) := by
  unfold insL
  rw [tmC_app, tmC_take, ← tmC_drop]
  simp [tmC]
theorem insL_len (l : List (Int × Int)) {i : Nat} (h : i ≤ l.length) (t : Int × Int) : (insL l i t).length = l.length + 1 := by
  unfold insL
  simp
  omega
/-- the elements behind place i go one place on, and a new one comes -/
theorem splice_in (C A B X Z : List Value) {i k : Nat} (hC : C = A ++ B ++ Z) (hA : A.length = i) (hX : X.length = k) (hk : k ≤ Z.length) : splice (splice C (i + k) B) i X = A ++ X ++ B ++ Z.drop k := by
  subst hC
  subst hA
  subst hX
  unfold splice
  apply List.ext_getElem?
  intro j
  simp only [List.getElem?_append, List.getElem?_take, List.getElem?_drop, List.length_append, List.length_take, List.length_drop]
  repeat' split
  all_goals first
    | rfl
    | omega
    | (congr 1; omega)
    | (simp only [List.getElem?_append]; repeat' split) <;> first | rfl | omega | (congr 1; omega) | (exfalso; omega)
end Go.Proofs.YtepadaleokijfaaGreatDoor
namespace Go.Proofs.YtepadaleokijfaaGreatDoor
open Go.RowKit
set_option linter.unusedVariables false
set_option linter.unusedSimpArgs false
def isZ8 : Value → Bool
  | .int .u8 0 => true
  | _ => false
theorem isZ8_eq {v : Value} (h : isZ8 v = true) : v = .int .u8 0 := by
  unfold isZ8 at h
  split at h
  · rfl
  · cases h
def mkM (a b : Value) : Sem Value := Instr.makeSlice 32 a b
theorem mkM_eq (a b : Value) : Instr.makeSlice 32 a b = mkM a b := rfl
def mkR (a b : Value) : Sem Value := Instr.makeSlice 33 a b
theorem mkR_eq (a b : Value) : Instr.makeSlice 33 a b = mkR a b := rfl
theorem infoM : (Tryz.prog.info? 37).map (fun i => (i.zero.map fun z => (z.cells.toList.length, z.cells.toList.all isZ8), i.size, i.bytes)) = some (some (1024, true), 1024, 1024) := by kernel_rfl
theorem infoR : (Tryz.prog.info? 41).map (fun i => (i.zero, i.size, i.bytes)) = some (some (.agg rgZ), 10, 48) := by kernel_rfl
/-- memories that are being laid -/
def MemR (w : World) (M n : Nat) (B : Nat → Nat → Nat) : Prop := ∃ C, Row w M 37 C ∧ C.size = n * 1024 ∧ ∀ j a, j < n → a < 1024 → C[j * 1024 + a]? = some (.int .u8 (B j a))
theorem MemR.mem {w : World} {M n : Nat} {B : Nat → Nat → Nat} (h : MemR w M n B) : CpuLaw.MemA w M n B := by
  obtain ⟨C, hr, hs, hc⟩ := h
  exact ⟨hr.lt, fun j a hj ha => (hr.cell _).trans (hc j a hj ha), hr.fz⟩
theorem MemR.upd {S : Nat → Prop} {w w' : World} {M n : Nat} {B : Nat → Nat → Nat} (h : MemR w M n B) (hu : Upd S w w') (hn : ¬ S M) : MemR w' M n B := by
  obtain ⟨C, hr, hs, hc⟩ := h
  exact ⟨C, hr.upd hu hn, hs, hc⟩
theorem MemR.lt {w : World} {M n : Nat} {B : Nat → Nat → Nat} (h : MemR w M n B) : M < w.heap.size := by
  obtain ⟨C, hr, -⟩ := h
  exact hr.lt
theorem madeCells_at (z : Array Value) (n i : Nat) (h : i < (madeCells z n).size) (hm : i % z.size < z.size) : (madeCells z n)[i] = z[i % z.size] := by
  simp [madeCells, hm]
theorem mkM_run (w : World) (n : Nat) (hn : n ≤ 8) : ∃ w', (mkM (.int .i64 (n : Int)) (.int .i64 (n : Int))).run Tryz.prog w = .ok (.slice (some ⟨w.heap.size, 0, none⟩) n n) w' ∧ MemR w' w.heap.size n (fun _ _ => 0) ∧ Below w.heap.size w w' := by
  cases hi : Tryz.prog.info? 37 with
  | none => have := infoM; rw [hi] at this; cases this
  | some i =>
    have h := infoM
    rw [hi] at h
    cases hz : i.zero with
    | none => simp [hz] at h
    | some z =>
      simp only [Option.map_some, hz, Option.some.injEq, Prod.mk.injEq] at h
      obtain ⟨⟨h1, h2⟩, h3, h4⟩ := h
      have h1 : z.cells.size = 1024 := by rw [← h1, Array.length_toList]
      have hr := run_makeSlice (P := Tryz.prog) w 32 37 i z Tryz.underlying32 hi hz .i64 .i64 (n : Int) (n : Int) (by omega) (Int.le_refl _) (by rw [h3, Int.toNat_natCast]; omega) (by rw [h4]; omega) (by omega)
      refine ⟨_, hr, ⟨madeCells z.cells ((n : Int).toNat * i.size), row_new w _ _, by rw [h3, Int.toNat_natCast, size_madeCells], fun j a hj ha => ?_⟩, Go.Joins.below_alloc1 _ _⟩
      have hjn : j * 1024 + a < n * 1024 := by omega
      have hs : (madeCells z.cells ((n : Int).toNat * i.size)).size = n * 1024 := by rw [h3, Int.toNat_natCast, size_madeCells]
      rw [Array.getElem?_eq_getElem (by rw [hs]; exact hjn)]
      have hm : (j * 1024 + a) % z.cells.size < z.cells.size := Nat.mod_lt _ (by rw [h1]; decide)
      rw [madeCells_at z.cells _ _ (by rw [hs]; exact hjn) hm]
      have hv : isZ8 (z.cells[(j * 1024 + a) % z.cells.size]'hm) = true := List.all_eq_true.1 h2 _ (by simp)
      rw [isZ8_eq hv]
      rfl
/-- registers of n processes -/
def RegB (w : World) (R n : Nat) (G : Nat → CpuLaw.G) : Prop := ∃ C, Row w R 41 C ∧ C.size = n * 10 ∧ ∀ i j, i < n → j < 10 → C[i * 10 + j]? = (CpuLaw.cellsA (G i))[j]?
theorem RegB.lt {w : World} {R n : Nat} {G : Nat → CpuLaw.G} (h : RegB w R n G) : R < w.heap.size := by
  obtain ⟨C, hr, -⟩ := h
  exact hr.lt
theorem RegB.upd {S : Nat → Prop} {w w' : World} {R n : Nat} {G : Nat → CpuLaw.G} (h : RegB w R n G) (hu : Upd S w w') (hn : ¬ S R) : RegB w' R n G := by
  obtain ⟨C, hr, hs, hc⟩ := h
  exact ⟨C, hr.upd hu hn, hs, hc⟩
theorem RegB.ld {w : World} {R n : Nat} {G : Nat → CpuLaw.G} (h : RegB w R n G) {i : Nat} (hi : i < n) : (ldR 41 (.pointer (some ⟨R, i * 10, none⟩))).run Tryz.prog w = .ok (.agg (CpuLaw.cellsA (G i))) w := by
  obtain ⟨C, hr, hs, hc⟩ := h
  rw [hr.ld (o := i * 10) (n := 10) (by omega) Tryz.underlying41 rfl (by kernel_rfl)]
  congr 2
  apply Array.ext_getElem?
  intro j
  by_cases hj : j < 10
  · rw [Array.getElem?_extract, if_pos (by omega), hc i j hi hj]
  · rw [Array.getElem?_eq_none (by simp; omega), Array.getElem?_eq_none (by show 10 ≤ j; omega)]
theorem RegB.st {w : World} {R n : Nat} {G : Nat → CpuLaw.G} (h : RegB w R n G) {i : Nat} (hi : i < n) (g : CpuLaw.G) : ∃ w', (stR 41 (.pointer (some ⟨R, i * 10, none⟩)) (.agg (CpuLaw.cellsA g))).run Tryz.prog w = .ok () w' ∧ RegB w' R n (fup G i g) ∧ Upd (fun k => k = R) w w' := by
  obtain ⟨C, hr, hs, hc⟩ := h
  have hsz : (CpuLaw.cellsA g).size = 10 := rfl
  refine ⟨_, hr.st (o := i * 10) (U := 41) (cs := CpuLaw.cellsA g) (by rw [hsz]; omega) (by kernel_rfl) (CpuLaw.cellsA_one g), ⟨_, hr.setRow _, ?_, fun k j hk hj => ?_⟩, Upd.setRow _ _ rfl⟩
  · simp [putA]
    omega
  · rw [putA_get (by simp [hsz]; omega)]
    by_cases e : k = i
    · subst e
      rw [if_pos (by simp [hsz]; omega), fup_same, show k * 10 + j - k * 10 = j by omega, Array.getElem?_toList]
    · rw [if_neg (by simp [hsz]; omega), fup_off _ _ e]
      exact hc k j hk hj
end Go.Proofs.YtepadaleokijfaaGreatDoor
