/- The walk of space's Map: six pages of zeros where none is. -/
import Derived.Test.YtopadiofanaaiaaDoorSpaceAdd
import Derived.Deep.RegionHeld3
namespace Go.Proofs.YtopadiofanaaiaaDoor
open Go.RowKit Go.Maps
set_option linter.unusedVariables false
set_option linter.unusedSimpArgs false
theorem build50 (w : World) : (Instr.build 50 #[]).run Tryd.prog w = .ok zero16 w := by kernel_rfl
/-- a memory that has grown from what there was -/
structure Since (t0 : Nat → Nat) (w : World) (Z : Nat) (tag : Nat → Nat) (wr : World) (M so im : Nat) (pv : Value) (pg : Nat → Nat) (k : Nat) (first : Int) : Prop where
  mem : Mem Z tag wr M so im pv pg k first (fun _ _ => 0)
  old : ∀ b, b < w.heap.size → tag b = t0 b
  turn : Turn t0 w wr
section
variable {Z : Nat} {t0 tag : Nat → Nat} {w wr : World} {M so im : Nat} {pv : Value} {pg : Nat → Nat} {k : Nat} {first : Int}
theorem Since.keep (h : Since t0 w Z tag wr M so im pv pg k first) {w' : World} (hb : Below wr.heap.size wr w') : Since t0 w Z tag w' M so im pv pg k first :=
  ⟨h.mem.keep hb, h.old, h.turn.trans (Turn.of_below hb)⟩
theorem Since.next (h : Since t0 w Z tag wr M so im pv pg k first) {g : Nat} {v : Value} {w1 w2 : World} (hh : Half w1.heap.size (tagged tag g k v) w1 M so im v (more pg k g) (k + 1) k (fun j => if first ≤ j ∧ j < first + k then some (pg (j - first).toNat, 3) else none)) (ho : ∀ b, b < wr.heap.size → tagged tag g k v b = tag b) (ht : Turn tag wr w1)
    (hi : IMap w2 im (k + 1) (fun j => if j = first + k then some (g, 3) else if first ≤ j ∧ j < first + k then some (pg (j - first).toNat, 3) else none)) (hg : w1.grownBy w2 (some im)) : Since t0 w w1.heap.size (tagged tag g k v) w2 M so im v (more pg k g) (k + 1) first := by
  have hm := hh.map hg hi
  refine ⟨hm.mem (first := first) ?_, fun b hb => (ho b (Nat.lt_of_lt_of_le hb h.turn.size)).trans (h.old b hb), ?_⟩
  · funext j
    by_cases e : j = first + k
    · subst e
      rw [if_pos rfl, if_pos ⟨by omega, by omega⟩, show (first + (k : Int) - first).toNat = k by omega, more_new]
    · rw [if_neg e]
      by_cases e2 : first ≤ j ∧ j < first + (k : Int)
      · rw [if_pos e2, if_pos ⟨by omega, by omega⟩, more_old pg k g (by omega)]
      · rw [if_neg e2, if_neg (by omega)]
  · have h1 : Turn t0 w w1 := ⟨ht.os.trans h.turn.os, ht.tape.trans h.turn.tape, ht.output.trans h.turn.output, Nat.le_trans h.turn.size ht.size, fun b hb h0 => (ht.block b (Nat.lt_of_lt_of_le hb h.turn.size) ((h.old b hb).trans h0)).trans (h.turn.block b hb h0)⟩
    refine ⟨hg.os.trans h1.os, hg.tape.trans h1.tape, hg.output.trans h1.output, Nat.le_trans h1.size hg.size, fun b hb h0 => (hg.block b (Nat.lt_of_lt_of_le hb h1.size) ?_).trans (h1.block b hb h0)⟩
    intro e
    injection e with e
    subst e
    have := (h.old b hb).symm.trans h.mem.tim
    omega
theorem Half.one {np ns : Nat} {fs : Int → Option (Nat × Int)} (h : Half Z tag w M so im pv pg np ns fs) : (Instr.lookup 38 (.map (some so)) (.int .i64 1) false).run Tryd.prog w = .ok (.map (some im)) w := h.om.look (by decide)
theorem add_some (h : Since t0 w Z tag wr M so im pv pg k first) (hk : k < 6) : Calls Tryd.prog 15 #[.pointer (some ⟨M, 0, none⟩), .agg #[.int .u8 0, .int .u8 0, .int .u8 0, .int .u8 0, .int .u8 0, .int .u8 0, .int .u8 0, .int .u8 0, .int .u8 0, .int .u8 0, .int .u8 0, .int .u8 0, .int .u8 0, .int .u8 0, .int .u8 0, .int .u8 0]] wr fun e w' => ∃ g v, e = .returned (.pointer (some ⟨g, 0, none⟩)) ∧ Half w'.heap.size (tagged tag g k v) w' M so im v (more pg k g) (k + 1) k (fun j => if first ≤ j ∧ j < first + k then some (pg (j - first).toNat, 3) else none) ∧ (∀ b, b < wr.heap.size → tagged tag g k v b = tag b) ∧ Turn tag wr w' := by
  refine (add_is h.mem.half (by omega)).mono ?_
  rintro e w' ⟨rfl, v, h1, h2, h3⟩
  exact ⟨_, v, rfl, h1, h2, h3⟩
theorem map_put {g : Nat} {v : Value} {w1 : World} {fs : Int → Option (Nat × Int)} {i : Int} (h : Half w1.heap.size (tagged tag g k v) w1 M so im v (more pg k g) (k + 1) k fs) (hi : (Lit.int .i64 i).wf = true) (hk : k < 6) : ∃ w', (Instr.mapUpdate 42 (.map (some im)) (.int .i64 i) (.agg #[.pointer (some ⟨g, 0, none⟩), .int .i64 3])).run Tryd.prog w1 = .ok () w' ∧ IMap w' im (k + 1) (fun j => if j = i then some (g, 3) else fs j) ∧ w1.grownBy w' (some im) :=
  h.sm.put hi (by unfold maxLen; omega) g 3
set_option maxRecDepth 100000 in
set_option maxHeartbeats 1000000 in
theorem map_is (h : Mem Z tag w M so im pv pg 0 first (fun _ _ => 0)) (hf : 0 ≤ first) (hf' : first + 6 ≤ 64) : Calls Tryd.prog 7 #[.pointer (some ⟨M, 0, none⟩), .int .i64 1, .int .i64 first, .int .i64 6, .int .i64 3] w fun e w' => e = .returned (.int .i64 0) ∧ ∃ Z' tag' pv' pg', Since tag w Z' tag' w' M so im pv' pg' 6 first := by
  have HSP := Lib.hid (span_is h (a := first) (n := 6) (r := 3) hf (by omega) (by decide) (by omega) (by decide) (by decide))
  have HM := Lib.hid h
  clear h
  go_enter Tryd.func7, Tryd.ntmps7
  go_upto_region 4 with (go_at_call 13; refine HSP.out.mono ?_; rintro e1 w1 ⟨rfl, rfl⟩)
  clear HSP
  go_wp2_with fail
  go_loopw [26] (fun kv wr => ∃ k : Nat, k ≤ 6 ∧ kv = .int .i64 k ∧ Hid (Since tag w Z tag wr M so im pv pg 0 first)) (fun kv _ => 6 - (intOf kv).toNat)
  case atStart => exact ⟨0, Nat.zero_le _, rfl, Lib.hid ⟨HM.out, fun _ _ => rfl, Turn.refl _ _⟩⟩
  case round =>
    clear HM
    obtain ⟨k, hk0, rfl, HS⟩ := hrel
    by_cases hk : k < 6
    · have i1 : (k : Int) < 6 := by omega
      have m4 := HS.out.mem.m4
      have l1 := HS.out.mem.one
      have y1 : IntKind.i64.wrap (first + (k : Int)) = first + k := IntWalk.i64_in _ (by omega)
      have l2 := HS.out.mem.no (k := first + k) (by omega) (by omega) (by omega)
      have HK := Lib.hid (HS.out.keep (Go.Joins.below_alloc1 wr (.cells #[.pointer none, .int .i64 0] 46)))
      go_wp2_with fail
      go_roundw
      case rel => exact ⟨k + 1, by omega, by go_num, HK⟩
      case measure => simp [intOf]; omega
    · obtain rfl : k = 6 := by omega
      have HRO := Lib.hid (room_is HS.out.mem 6 (by decide) (by decide))
      go_upto_region 13 with (go_at_call 14; refine HRO.out.mono ?_; rintro e2 w2 ⟨rfl, q, rfl⟩)
      have HS2 := Lib.hid (HS.out.keep (w' := wr.drewN q) (below_drewN (Below.refl _ _) q))
      clear HS HRO
      generalize wr.drewN q = wo at *
      go_wp2_with fail
      go_loopw [49] (fun kv wr => ∃ k Z' tag' pv' pg', k ≤ 6 ∧ kv = .int .i64 (k : Nat) ∧ Hid (Since tag w Z' tag' wr M so im pv' pg' k first)) (fun kv _ => 6 - (intOf kv).toNat)
      case atStart => exact ⟨0, _, _, _, _, Nat.zero_le _, rfl, HS2⟩
      case round =>
        clear HS2
        obtain ⟨k, Z', tag', pv', pg', hk0, rfl, HS⟩ := hrel
        by_cases hk : k < 6
        · have i1 : (k : Int) < 6 := by omega
          have HS1 := Lib.hid (HS.out.keep (w' := wr.drew) (Below.refl _ _).drew)
          have m4 := HS.out.mem.m4
          have l1 := HS.out.mem.one
          have HADD := Lib.hid (add_some HS1.out hk)
          have HWF := Lib.hid (wf_i64 (k := first + (k : Int)) (by omega) (by omega))
          have y1 : IntKind.i64.wrap (first + (k : Int)) = first + k := IntWalk.i64_in _ (by omega)
          clear HS
          have HS0 := Lib.hid (And.intro HS1.out.mem.m4 HS1.out.mem.one)
          go_upto_region 16 with fail
          go_region_held3 (fun wx => wx.cell? ⟨M, 4, none⟩ = some (.map (some so)) ∧ (Instr.lookup 38 (.map (some so)) (.int .i64 1) false).run Tryd.prog wx = .ok (.map (some im)) wx) (first | assumption | exact HS0.out | exact hS4.out | exact Hid.out ‹_› | go_keep)
            ((go_at_call 15; (with_reducible refine HADD.out.mono ?_); rintro e3 w3 ⟨g, v3, rfl, hh3, ho3, ht3⟩; have hS := And.intro hh3.m4 hh3.one; obtain ⟨w4, hup, hi4, hg4⟩ := map_put hh3 HWF.out hk; have HN := Lib.hid (HS1.out.next hh3 ho3 ht3 hi4 hg4); have hS4 := Lib.hid (And.intro HN.out.mem.m4 HN.out.mem.one); clear hh3 ho3 ht3 hi4 hg4))
          all_goals clear hup hS
          · go_wp2_with fail
            go_roundw
            case rel => exact ⟨k + 1, _, _, _, _, by omega, by go_num, HN⟩
            case measure => simp [intOf]; omega
          · go_wp2_with fail
            go_roundw
            case rel => exact ⟨k + 1, _, _, _, _, by omega, by go_num, HN⟩
            case measure => simp [intOf]; omega
        · obtain rfl : k = 6 := by omega
          go_wp2_with fail
          go_ret
          exact ⟨rfl, _, _, _, _, HS.out⟩
end
end Go.Proofs.YtopadiofanaaiaaDoor
