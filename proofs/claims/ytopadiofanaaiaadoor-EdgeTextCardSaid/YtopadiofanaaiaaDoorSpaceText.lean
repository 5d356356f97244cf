/- The walk of edge.Text. -/
import Derived.Test.YtopadiofanaaiaaDoorSpaceWrite
import Derived.Lib.BufferRead
import Derived.Laws.IdiomStrings
namespace Go.Proofs.YtopadiofanaaiaaDoor
open Go.RowKit Go.Maps
set_option linter.unusedVariables false
set_option linter.unusedSimpArgs false
section
variable {Z : Nat} {tag : Nat → Nat} {w w' : World} {M so im : Nat} {pv : Value} {pg : Nat → Nat} {np : Nat} {first : Int} {dt : Nat → Nat → Int}
theorem Turn.owns {B e s n : Nat} {v : Value} {l : List Value} (h : Turn tag w w') (ho : w.ownsRow B e s v n l) (ht : ∀ k, B ≤ k → tag k = 0) : w'.ownsRow B e s v n l := by
  refine ⟨ho.1, ?_⟩
  rcases ho.2 with h0 | ⟨g, c, cur, he, hb, hg, hr⟩
  · exact .inl h0
  · exact .inr ⟨g, c, cur, he, hb, (h.block g (Array.getElem?_eq_some_iff.1 hg).1 (ht g hb)).trans hg, hr⟩
theorem Turn.grown {w0 : World} {row : Option Nat} (h : Turn tag w0 w) (hg : w.grownBy w' row) (hr : ∀ b, row = some b → w0.heap.size ≤ b) : Turn tag w0 w' :=
  ⟨hg.os.trans h.os, hg.tape.trans h.tape, hg.output.trans h.output, Nat.le_trans h.size hg.size, fun k hk ht => (hg.block k (Nat.lt_of_lt_of_le hk h.size) (by intro e; have := hr k e.symm; omega)).trans (h.block k hk ht)⟩
theorem Mem.grown {row : Option Nat} (h : Mem Z tag w M so im pv pg np first dt) (hg : w.grownBy w' row) (hr : ∀ b, row = some b → tag b = 0) : Mem Z tag w' M so im pv pg np first dt := by
  have ne : ∀ {b t}, tag b = t → t ≠ 0 → some b ≠ row := fun hb ht e => ht (hb.symm.trans (hr _ e.symm))
  have neM := ne h.tM (by decide)
  have k : ∀ {o v}, w.cell? ⟨M, o, none⟩ = some v → w'.cell? ⟨M, o, none⟩ = some v := fun hc => (grown_cell hg h.mlt neM).trans hc
  obtain ⟨ck, hck⟩ := h.m2
  refine ⟨k h.m0, k h.m1, ⟨ck, k hck⟩, k h.m3, k h.m4, fun j => (grown_frozen hg h.mlt neM).trans (h.mz j), Nat.lt_of_lt_of_le h.mlt hg.size, h.ps.kept hg ?_, h.om.kept hg (ne h.tso (by decide)), h.sm.kept hg (ne h.tim (by decide)), fun i hi => (h.pgs i hi).kept hg (ne (h.tpg i hi) (by omega)), h.tM, h.tso, h.tim, h.tpv, h.tpg, h.tz, Nat.le_trans h.zle hg.size⟩
  cases hv : pv.ownBlock with
  | none => simp
  | some b => exact .inr (ne (h.tpv b hv) (by decide))
def u8s (l : List UInt8) : List Value := l.map fun b => Value.int .u8 (b.toNat : Int)
theorem u8s_len (l : List UInt8) : (u8s l).length = l.length := by simp [u8s]
theorem string_is {B : Nat} {v : Value} {l : List UInt8} (h : w.ownsRow B 5 1 v l.length (u8s l)) : (convert 32 9 v).run Tryd.prog w = .ok (.string ⟨l.toArray⟩) w := by
  obtain ⟨a, cap, rfl⟩ := own_form h
  by_cases h0 : 0 < l.length
  · obtain ⟨g, rfl, h1, h2, h3, h4⟩ := own_block h h0
    refine run_convert_bytes_back w 32 9 5 ⟨g, 0, none⟩ cap l Tryd.underlying32 Tryd.underlying5 Tryd.underlying9 fun j hj => ?_
    exact h.cells (g := g) rfl j _ (by simp [u8s, hj])
  · obtain rfl : l = [] := List.eq_nil_of_length_eq_zero (by omega)
    rcases h.2 with ⟨he, hn⟩ | ⟨g, c, cur, he, hb, hg, hr⟩
    · simp only [Value.slice.injEq] at he
      obtain ⟨rfl, -, rfl⟩ := he
      exact Lib.run_convert_nil_bytes w 32 9 5 0 Tryd.underlying32 Tryd.underlying5 Tryd.underlying9
    · simp only [Value.slice.injEq] at he
      obtain ⟨rfl, -, rfl⟩ := he
      exact run_convert_bytes_back w 32 9 5 ⟨g, 0, none⟩ _ [] Tryd.underlying32 Tryd.underlying5 Tryd.underlying9 (fun j hj => absurd hj (by simp))
attribute [local go_sem ↓] app32_eq
set_option maxRecDepth 100000 in
set_option maxHeartbeats 1000000 in
theorem text_is (h : Mem Z tag w M so im pv pg np first dt) {ad : Int} {l : List UInt8} (hl : l.length ≤ 64) (hd : ∀ k, k < l.length → dt ((ad + k) / 16 - first).toNat ((ad + k) % 16).toNat = ((l.getD k 0).toNat : Int)) (hnz : ∀ k, k < l.length → ((l.getD k 0).toNat : Int) ≠ 0)
    (h0 : dt ((ad + l.length) / 16 - first).toNat ((ad + l.length) % 16).toNat = 0) (hf : 0 ≤ first) (ha : 0 ≤ ad) (ha' : ad + l.length < 1024) (hlo : first ≤ ad / 16) (hhi : (ad + l.length) / 16 < first + np) :
    Calls Tryd.prog 10 #[.pointer (some ⟨M, 0, none⟩), .int .i64 1, .int .u32 ad] w fun e w' => e = .returned (.tuple #[.string ⟨l.toArray⟩, .int .i64 0]) ∧ Mem Z tag w' M so im pv pg np first dt ∧ Turn tag w w' := by
  have HD := Lib.hid hd
  have HN := Lib.hid hnz
  have H0 := Lib.hid h0
  have HM := Lib.hid h
  have HZ := Lib.hid (show ∀ k, w.heap.size ≤ k → tag k = 0 from fun k hk => h.tz k (Nat.le_trans h.zle hk))
  clear h hd hnz h0
  go_enter Tryd.func10, Tryd.ntmps10
  go_wp2_with fail
  go_loopw [8, 12] (fun bv kv wr => ∃ k : Nat, k ≤ l.length ∧ kv = .int .u32 k ∧ Hid (Mem Z tag wr M so im pv pg np first dt) ∧ Hid (Turn tag w wr) ∧ Hid (wr.ownsRow w.heap.size 5 1 bv (l.take k).length (u8s (l.take k)))) (fun _ kv _ => l.length + 1 - (intOf kv).toNat)
  case atStart => exact ⟨0, Nat.zero_le _, rfl, HM, Lib.hid (Turn.refl _ _), Lib.hid (World.ownsRow_nil _ _ _ _)⟩
  case round =>
    clear HM
    obtain ⟨k, hk0, rfl, HM, HT, HO⟩ := hrel
    have i1 : (k : Int) < 65 := by omega
    have y1 : IntKind.u32.wrap (ad + (k : Int)) = ad + k := IntWalk.u32_in _ (by omega)
    have y2 : IntKind.u32.wrap ((k : Int) + 1) = k + 1 := IntWalk.u32_in _ (by omega)
    have HLD := Lib.hid (load_is HM.out (ad := ad + (k : Int)) hf (by omega) (by omega) (by omega) (by omega))
    by_cases hk : k < l.length
    · have hne := HN.out k hk
      have hld := HLD.out
      rw [HD.out k hk] at hld
      have HSN : Hid (l.take (k + 1) = l.take k ++ [l.getD k 0]) := Lib.hid (by rw [List.take_add_one]; simp [List.getD, hk])
      have HLT : Hid ((l.take k).length = k) := Lib.hid (by rw [List.length_take]; omega)
      generalize l.getD k 0 = x at *
      have HLD := Lib.hid hld
      have HE : ((x.toNat : Int) == 0) = false := by simpa using hne
      clear hld hne
      go_upto_region 10 with (go_at_call 19; refine HLD.out.mono ?_; rintro e1 w1 ⟨rfl, hm1, ht1⟩)
      have ho1 := ht1.owns HO.out HZ.out
      have hal := Go.Joins.below_alloc1 w1 (.cells #[.int .u8 (x.toNat : Int)] 5)
      obtain ⟨i0, hi5, hz0, hz1, hz2⟩ := info_parts info5
      obtain ⟨v2, w2, hap, own2, grow2, -⟩ := run_append_fresh (P := Tryd.prog) (w1.alloc (.cells #[.int .u8 (x.toNat : Int)] 5)) w.heap.size 32 32 5 i0 (.int .u8 0) 1 1 Tryd.underlying32 hi5 hz0 hz1 hz2 rfl (by decide) _ _ _ (owns_keep ho1 hal) ⟨w1.heap.size, 0, none⟩ 1 1 [.int .u8 (x.toNat : Int)] rfl (cells_new w1 [.int .u8 (x.toNat : Int)] 5) (by simp [Value.oneCell']) (by rw [HLT.out]; unfold maxLen; omega) (by rw [HLT.out]; omega) (by have := HT.out.size; have := ht1.size; simp; omega)
      rw [app32_eq] at hap
      have HM2 := Lib.hid ((hm1.keep hal).grown grow2 (fun b hb => HZ.out b (ho1.lt b hb).1))
      have HT2 := Lib.hid (((HT.out.trans ht1).trans (Turn.of_below hal)).grown grow2 (fun b hb => (ho1.lt b hb).1))
      have HO2 : Hid (w2.ownsRow w.heap.size 5 1 v2 (l.take (k + 1)).length (u8s (l.take (k + 1)))) := Lib.hid (by rw [HSN.out, List.length_append]; simpa only [u8s, List.map_append, List.map_cons, List.map_nil, List.length_cons, List.length_nil] using own2)
      clear hm1 ht1 ho1 hal hi5 hz0 hz1 hz2 own2 grow2
      go_wp2_with fail
      go_roundw
      case rel => exact ⟨k + 1, by omega, by go_num, HM2, HT2, HO2⟩
      case measure => simp [intOf]; omega
    · obtain rfl : k = l.length := by omega
      have hld := HLD.out
      rw [H0.out] at hld
      have ho := HO.out
      rw [List.take_length] at ho
      have HO := Lib.hid ho
      have HLD := Lib.hid hld
      clear hld ho
      go_upto_region 9 with (go_at_call 19; refine HLD.out.mono ?_; rintro e1 w1 ⟨rfl, hm1, ht1⟩)
      have hcv := string_is (ht1.owns HO.out HZ.out)
      have HR := Lib.hid (And.intro hm1 (HT.out.trans ht1))
      clear hm1 ht1
      go_wp2_with fail
      go_ret2
      exact ⟨rfl, HR.out⟩
set_option maxRecDepth 100000 in
set_option maxHeartbeats 400000 in
theorem text_no (h : Mem Z tag w M so im pv pg np first dt) {ad : Int} (ha : 0 ≤ ad) (ha' : ad < 1024) (hno : ¬ (first ≤ ad / 16 ∧ ad / 16 < first + np)) : Calls Tryd.prog 10 #[.pointer (some ⟨M, 0, none⟩), .int .i64 1, .int .u32 ad] w fun e w' => e = .returned (.tuple #[.string ⟨#[]⟩, .int .i64 11]) ∧ Below w.heap.size w w' := by
  have HLD := Lib.hid (load_no h ha ha' hno)
  have y1 : IntKind.u32.wrap ad = ad := IntWalk.u32_in _ (by omega)
  clear h hno
  go_enter Tryd.func10, Tryd.ntmps10
  go_wp2_with fail
  refine wp_loop_rounds 1 ?_
  rw [rounds_succ]
  go_wp2_with (go_at_call 19; refine HLD.out.mono ?_; rintro e1 w1 ⟨rfl, hb1⟩)
  go_ret2
  exact ⟨rfl, hb1⟩
end
end Go.Proofs.YtopadiofanaaiaaDoor
