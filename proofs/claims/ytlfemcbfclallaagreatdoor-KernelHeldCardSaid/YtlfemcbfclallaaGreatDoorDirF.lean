/- The walks of package dir at a directory without entries, and with one ("f", 2): strings, names. The walks of package dir: the comparison of names, a row. The walks of package dir: TrimRight at a name, a row. The walks of package dir at no entries. The walks of package dir at no entries: Lay, List, Find. The walks of package dir at one entry: Right, Clone, Lay. -/
import Derived.Test.YtlfemcbfclallaaGreatDoorFsK
import Derived.Lib.Bytealg
import Derived.Laws.IdiomStrings
import Derived.Deep.RegionHeld3
import Derived.Test.YtlfemcbfclallaaGreatDoorMake
import Derived.Test.YtlfemcbfclallaaGreatDoorFsR
import Derived.Laws.EntriesVeiled
namespace Go.Proofs.YtlfemcbfclallaaGreatDoor
open Go.RowKit Go.Maps
set_option linter.unusedVariables false
set_option linter.unusedSimpArgs false
set_option maxRecDepth 100000 in
set_option maxHeartbeats 400000 in
theorem ixb0_is (s : ByteArray) (c : Int) (w : World) : Calls Tryz.prog 315 #[.string s, .int .u8 c] w fun e w' => e = .returned (.int .i64 (Lib.indexByte s.data.toList c.toNat.toUInt8)) ∧ w = w' := by
  go_enter Tryz.func315, Tryz.ntmps315
  go_wp2
  rw [run_callFunc_extern Tryz.func345 (by kernel_rfl) (by kernel_rfl) (by kernel_rfl) (e := Extern.BytealgIndexByte.indexByte) (by kernel_rfl), Lib.run_indexByteString]
  simp only [Result.andThen]
  rw [Oper.upon_value]
  go_wp2
  go_ret
  exact ⟨rfl, rfl⟩
set_option maxRecDepth 100000 in
set_option maxHeartbeats 400000 in
theorem ixb_is (s : ByteArray) (c : Int) (w : World) : Calls Tryz.prog 267 #[.string s, .int .u8 c] w fun e w' => e = .returned (.int .i64 (Lib.indexByte s.data.toList c.toNat.toUInt8)) ∧ w = w' := by
  have H := Lib.hid (ixb0_is s c w)
  go_enter Tryz.func267, Tryz.ntmps267
  go_wp2_with (go_at_call 315; refine H.out.mono ?_; rintro e1 w1 ⟨rfl, rfl⟩)
  go_ret
  exact ⟨rfl, rfl⟩
set_option maxRecDepth 100000 in
set_option maxHeartbeats 400000 in
theorem name_is (w : World) : Calls Tryz.prog 203 #[.string ⟨#[102]⟩] w fun e w' => e = .returned (.bool true) ∧ w = w' := by
  have H0 := Lib.hid (ixb_is ⟨#[102]⟩ 0 w)
  have H1 := Lib.hid (ixb_is ⟨#[102]⟩ 47 w)
  have e0 : Lib.indexByte (⟨#[102]⟩ : ByteArray).data.toList (0 : Int).toNat.toUInt8 = -1 := by decide
  have e1 : Lib.indexByte (⟨#[102]⟩ : ByteArray).data.toList (47 : Int).toNat.toUInt8 = -1 := by decide
  rw [e0] at H0
  rw [e1] at H1
  go_enter Tryz.func203, Tryz.ntmps203
  go_wp2_with (first | (go_at_call 267; (with_reducible refine H0.out.mono ?_); rintro e1 w1 ⟨rfl, rfl⟩; clear H0) | (go_at_call 267; (with_reducible refine H1.out.mono ?_); rintro e1 w1 ⟨rfl, rfl⟩; clear H1))
  go_ret
  exact ⟨rfl, rfl⟩
end Go.Proofs.YtlfemcbfclallaaGreatDoor
namespace Go.Proofs.YtlfemcbfclallaaGreatDoor
open Go.RowKit Go.Maps
set_option linter.unusedVariables false
set_option linter.unusedSimpArgs false
set_option maxRecDepth 100000 in
set_option maxHeartbeats 400000 in
theorem nanS_is (w : World) : Calls Tryz.prog 317 #[.string ⟨#[102]⟩] w fun e w' => e = .returned (.bool false) ∧ w = w' := by
  go_enter Tryz.func317, Tryz.ntmps317
  go_wp2
  go_ret
  exact ⟨rfl, rfl⟩
set_option maxRecDepth 100000 in
set_option maxHeartbeats 400000 in
theorem cmpS_is (w : World) : Calls Tryz.prog 269 #[.string ⟨#[102]⟩, .string ⟨#[102]⟩] w fun e w' => e = .returned (.int .i64 0) ∧ w = w' := by
  have H := Lib.hid (nanS_is w)
  have b0 : Op.bytesLess [102] [102] = false := by decide
  have hg : (binOp .gtr 9 (.string ⟨#[102]⟩) (.string ⟨#[102]⟩)).run Tryz.prog w = .ok (.bool false) w := by kernel_rfl
  go_enter Tryz.func269, Tryz.ntmps269
  go_wp2_with (go_at_call 317; refine H.out.mono ?_; rintro e1 w1 ⟨rfl, rfl⟩)
  go_ret
  exact ⟨rfl, rfl⟩
def sk (k : Nat) : ByteArray := ⟨(102 :: List.replicate k 0).toArray⟩
theorem sk_size (k : Nat) : (sk k).size = k + 1 := by simp [sk, ByteArray.size]
def ixS (a b : Value) : Sem Value := Instr.index 9 a b
def slS (a : Value) (b c d : Option Value) : Sem Value := Instr.sliceAt 9 a b c d
theorem ixS_eq (a b : Value) : Instr.index 9 a b = ixS a b := rfl
theorem slS_eq (a : Value) (b c d : Option Value) : Instr.sliceAt 9 a b c d = slS a b c d := rfl
theorem ixS_run (w : World) : ∀ k : Nat, k ≤ 13 → (ixS (.string (sk k)) (.int .i64 k)).run Tryz.prog w = .ok (.int .u8 (if k = 0 then 102 else 0)) w := by
  intro k hk
  rcases k with _ | _ | _ | _ | _ | _ | _ | _ | _ | _ | _ | _ | _ | _ | k
  all_goals first | omega | kernel_rfl
theorem slS_run (w : World) : ∀ k : Nat, k ≤ 12 → (slS (.string (sk (k + 1))) none (some (.int .i64 (k + 1 : Nat))) none).run Tryz.prog w = .ok (.string (sk k)) w := by
  intro k hk
  rcases k with _ | _ | _ | _ | _ | _ | _ | _ | _ | _ | _ | _ | _ | k
  all_goals first | omega | kernel_rfl
section
attribute [local go_sem ↓] ixS_eq slS_eq
set_option maxRecDepth 100000 in
set_option maxHeartbeats 400000 in
theorem trimB_is (w : World) : Calls Tryz.prog 346 #[.string (sk 13), .int .u8 0] w fun e w' => e = .returned (.string (sk 0)) ∧ w = w' := by
  go_enter Tryz.func346, Tryz.ntmps346
  go_wp2
  go_loopw [0] (fun sv wr => ∃ k : Nat, k ≤ 13 ∧ sv = .string (sk k) ∧ wr = w) (fun sv _ => match sv with | .string s => s.size | _ => 0)
  case atStart => exact ⟨13, by omega, rfl, by trivial⟩
  case round =>
    obtain ⟨k, hk, rfl, rfl⟩ := hrel
    have hz := sk_size k
    have hi := ixS_run wr k hk
    rcases k with _ | k
    · rw [if_pos rfl] at hi
      have hi : (ixS (.string (sk 0)) (.int .i64 0)).run Tryz.prog wr = .ok (.int .u8 102) wr := hi
      have hz : (sk 0).size = 1 := hz
      obtain ⟨S, hS⟩ : ∃ S, S = sk 0 := ⟨_, rfl⟩
      rw [← hS] at hi hz ⊢
      have HS := Lib.hid hS
      clear hS
      go_wp2
      go_ret
      exact ⟨by rw [← HS.out]; rfl, rfl⟩
    · rw [if_neg (by omega)] at hi
      have hs := slS_run wr k (by omega)
      rw [show (((k + 1 : Nat)) : Int) = (k : Int) + 1 by omega] at hi hs
      have HM : Hid (k ≤ 12 ∧ (sk k).size = k + 1 ∧ (sk (k + 1)).size = k + 2) := Lib.hid ⟨by omega, sk_size k, sk_size (k + 1)⟩
      generalize hS : sk (k + 1) = S at *
      have HS := Lib.hid hS
      clear hS
      go_wp2
      go_roundw
      case rel => exact ⟨k, by have := HM.out.1; omega, rfl, by trivial⟩
      case measure => have := HM.out; simp only; omega
end
end Go.Proofs.YtlfemcbfclallaaGreatDoor
namespace Go.Proofs.YtlfemcbfclallaaGreatDoor
open Go.RowKit Go.Maps
set_option linter.unusedVariables false
set_option linter.unusedSimpArgs false
def entL : List Int := [102, 0, 0, 0, 0, 0, 0, 0, 0, 0, 0, 0, 0, 0, 2, 0]
theorem convN {w : World} {b o c : Nat} (h : ∀ i, i < 16 → w.cell? ⟨b, o + i, none⟩ = some (.int .u8 (entL.getD i 0))) : (convert 22 9 (.slice (some ⟨b, o, none⟩) 14 c)).run Tryz.prog w = .ok (.string (sk 13)) w := by
  refine run_convert_bytes_back w 22 9 5 ⟨b, o, none⟩ c (102 :: List.replicate 13 (0 : UInt8)) Tryz.underlying22 Tryz.underlying5 Tryz.underlying9 fun j hj => ?_
  have hj' : j < 14 := by simpa using hj
  rw [Addr.add_lit, h j (by omega)]
  rcases j with _ | _ | _ | _ | _ | _ | _ | _ | _ | _ | _ | _ | _ | _ | j
  all_goals first | omega | rfl
set_option maxRecDepth 100000 in
set_option maxHeartbeats 400000 in
theorem trimR_is (w : World) : Calls Tryz.prog 316 #[.string (sk 13), .string ⟨#[0]⟩] w fun e w' => e = .returned (.string (sk 0)) ∧ w = w' := by
  have H := Lib.hid (trimB_is w)
  have hz := sk_size 13
  have he2 : (sk 13).toList.isEmpty = false := by kernel_rfl
  have he : (binOp .eql 9 (.string (sk 13)) (.string ⟨#[]⟩)).run Tryz.prog w = .ok (.bool false) w := by kernel_rfl
  have hi : (Instr.index 9 (.string ⟨#[0]⟩) (.int .i64 0)).run Tryz.prog w = .ok (.int .u8 0) w := by kernel_rfl
  generalize sk 13 = S at *
  go_enter Tryz.func316, Tryz.ntmps316
  go_wp2_with (go_at_call 346; refine H.out.mono ?_; rintro e1 w1 ⟨rfl, rfl⟩)
  go_ret
  exact ⟨rfl, rfl⟩
set_option maxRecDepth 100000 in
set_option maxHeartbeats 800000 in
theorem row_is {w : World} {b o c : Nat} (hv : At (Value.int .u8) 0 w (.slice (some ⟨b, o, none⟩) 16 c) entL) : Calls Tryz.prog 268 #[.slice (some ⟨b, o, none⟩) 16 c, .int .i64 0] w fun e w' => e = .returned (.agg #[.string ⟨#[102]⟩, .int .i64 2]) ∧ Below w.heap.size w w' := by
  have hal := Go.Joins.below_alloc1 w (.cells #[.string ⟨#[]⟩, .int .i64 0] 390)
  have HB := Lib.hid hal
  have hcm : (c : Int) ≤ 9223372036854775807 ∧ 16 ≤ c := by
    obtain ⟨a', cap', e1, e2, e3, e4⟩ := hv
    injection e1 with e1 e5 e6
    unfold maxLen at e3
    have : entL.length = 16 := rfl
    omega
  obtain ⟨hc1, hc2⟩ := hcm
  have hc3 : (14 : Int) ≤ c := by omega
  have hcl : ∀ i, i < 16 → (w.alloc (.cells #[.string ⟨#[]⟩, .int .i64 0] 390)).cell? ⟨b, o + i, none⟩ = some (.int .u8 (entL.getD i 0)) := by
    rcases At.cellB (hv.keep hal) with e | ⟨b', o', e, hlt, hc⟩
    · cases e
    · injection e with e
      injection e with e1 e2 _
      subst e1 e2
      exact hc
  have k1 := convN (c := c) hcl
  have c14 : (w.alloc (.cells #[.string ⟨#[]⟩, .int .i64 0] 390)).cell? ⟨b, o + 14, none⟩ = some (.int .u8 2) := hcl 14 (by decide)
  have HT := Lib.hid (fun w => trimR_is w)
  have q0 : IntKind.i64.wrap 0 = 0 := by decide
  have q14 : IntKind.i64.wrap 14 = 14 := by decide
  have q2 : IntKind.i64.wrap 2 = 2 := by decide
  have q014 : IntKind.i64.wrap (0 + 14) = 14 := by decide
  have hr := row_new w 390 #[.string ⟨#[]⟩, .int .i64 0]
  have HR := Lib.hid hr
  have z0 := hr.fz 0
  have z1 := hr.fz 1
  have y0 := hr.cell 0
  have y1 := hr.cell 1
  clear hv hal hcl hr
  generalize sk 13 = S at *
  go_enter Tryz.func268, Tryz.ntmps268
  go_upto_region 2 with fail
  generalize w.alloc (.cells #[.string ⟨#[]⟩, .int .i64 0] 390) = w1 at *
  go_region_law (go_simp; go_at_call 316; refine (HT.out _).mono ?_; rintro e2 w2 ⟨rfl, rfl⟩)
  all_goals
    go_wp2_with fail
    have hr2 : Row (w1.setCell ⟨w.heap.size, 0, none⟩ (.string (sk 0))) w.heap.size 390 #[.string (sk 0), .int .i64 0] := by rw [HR.out.setCell]; exact HR.out.setRow _
    have hr3 : Row (((w1.setCell ⟨w.heap.size, 0, none⟩ (.string (sk 0))).setCell ⟨w.heap.size, 1, none⟩ (.int .i64 2)).drew) w.heap.size 390 #[.string (sk 0), .int .i64 2] := by rw [hr2.setCell]; exact (hr2.setRow _).drew
    have l3 := hr3.ldV Tryz.underlying390 rfl (by kernel_rfl)
    have hu : Upd (fun j => j = w.heap.size) w1 (((w1.setCell ⟨w.heap.size, 0, none⟩ (.string (sk 0))).setCell ⟨w.heap.size, 1, none⟩ (.int .i64 2)).drew) := ((Upd.set (S := fun j => j = w.heap.size) w1 (b := w.heap.size) (i := 0) (.string (sk 0)) rfl).trans (Upd.set (S := fun j => j = w.heap.size) _ (b := w.heap.size) (i := 1) (.int .i64 2) rfl)).trans (Upd.drew _)
    exact bodyPost_ret (v := .agg #[.string (sk 0), .int .i64 2]) (by rw [results_cell1 rfl]; simp [asAddr, Result.andThen, l3]) rfl ⟨rfl, HB.out.trans (hu.toBelow HB.out.size (fun k hk e => by omega))⟩
end Go.Proofs.YtlfemcbfclallaaGreatDoor
namespace Go.Proofs.YtlfemcbfclallaaGreatDoor
open Go.RowKit Go.Maps
set_option linter.unusedVariables false
set_option linter.unusedSimpArgs false
set_option maxRecDepth 100000 in
set_option maxHeartbeats 400000 in
theorem isortE_is (w : World) (v f : Value) (n : Int) (hn : n = 0 ∨ n = 1) : Calls Tryz.prog 377 #[v, .int .i64 0, .int .i64 n, f] w fun e w' => e = .returned (.tuple #[]) ∧ w = w' := by
  rcases hn with rfl | rfl
  all_goals
    go_enter Tryz.func377, Tryz.ntmps377
    go_wp2_with fail
    refine wp_loop_rounds 1 ?_
    rw [rounds_succ]
    go_wp2_with fail
    (try simp only [Exit.inBlock, Exit.then]); first | (refine bodyPost_ret (results_none rfl _ _ _) rfl ?_) | (refine bodyPost_end (results_none rfl _ _ _) rfl ?_)
    exact ⟨rfl, rfl⟩
set_option maxRecDepth 100000 in
set_option maxHeartbeats 400000 in
theorem pdqE_is (w : World) (v f : Value) (k : Value) (n : Int) (hn : n = 0 ∨ n = 1) : Calls Tryz.prog 354 #[v, .int .i64 0, .int .i64 n, k, f] w fun e w' => e = .returned (.tuple #[]) ∧ w = w' := by
  have HI := Lib.hid (isortE_is w v f n hn)
  rcases hn with rfl | rfl
  all_goals
    go_enter Tryz.func354, Tryz.ntmps354
    go_wp2_with fail
    refine wp_loop_rounds 1 ?_
    rw [rounds_succ]
    go_wp2_with (go_at_call 377; refine HI.out.mono ?_; rintro e1 w1 ⟨rfl, rfl⟩)
    (try simp only [Exit.inBlock, Exit.then]); first | (refine bodyPost_ret (results_none rfl _ _ _) rfl ?_) | (refine bodyPost_end (results_none rfl _ _ _) rfl ?_)
    exact ⟨rfl, rfl⟩
set_option maxRecDepth 100000 in
set_option maxHeartbeats 400000 in
theorem len64_1 (w : World) : Calls Tryz.prog 284 #[.int .u64 1] w fun e w' => e = .returned (.int .i64 1) ∧ w = w' := by
  go_enter Tryz.func284, Tryz.ntmps284
  go_wp2_with fail
  go_ret
  exact ⟨by kernel_rfl, rfl⟩
set_option maxRecDepth 100000 in
set_option maxHeartbeats 400000 in
theorem len_1 (w : World) : Calls Tryz.prog 216 #[.int .u64 1] w fun e w' => e = .returned (.int .i64 1) ∧ w = w' := by
  have HI := Lib.hid (len64_1 w)
  go_enter Tryz.func216, Tryz.ntmps216
  go_wp2_with (go_at_call 284; refine HI.out.mono ?_; rintro e1 w1 ⟨rfl, rfl⟩)
  go_ret
  exact ⟨rfl, rfl⟩
set_option maxRecDepth 100000 in
set_option maxHeartbeats 400000 in
theorem sortE_is (w : World) (f : Value) (a : Option Addr) (n c : Nat) (hn : n = 0 ∨ n = 1) : Calls Tryz.prog 336 #[.slice a n c, f] w fun e w' => e = .returned (.tuple #[]) ∧ w = w' := by
  have HP0 := Lib.hid (fun k => pdqE_is w (.slice a 0 c) f k 0 (.inl rfl))
  have HP1 := Lib.hid (fun k => pdqE_is w (.slice a 1 c) f k 1 (.inr rfl))
  have HI0 := Lib.hid (len_is w)
  have HI1 := Lib.hid (len_1 w)
  rcases hn with rfl | rfl
  all_goals
    go_enter Tryz.func336, Tryz.ntmps336
    go_wp2_with (first | (go_at_call 216; (with_reducible refine HI0.out.mono ?_); rintro e1 w1 ⟨rfl, rfl⟩) | (go_at_call 216; (with_reducible refine HI1.out.mono ?_); rintro e1 w1 ⟨rfl, rfl⟩) | (go_at_call 354; (with_reducible refine (HP0.out _).mono ?_); rintro e1 w1 ⟨rfl, rfl⟩) | (go_at_call 354; (with_reducible refine (HP1.out _).mono ?_); rintro e1 w1 ⟨rfl, rfl⟩))
    (try simp only [Exit.inBlock, Exit.then]); first | (refine bodyPost_ret (results_none rfl _ _ _) rfl ?_) | (refine bodyPost_end (results_none rfl _ _ _) rfl ?_)
    exact ⟨rfl, rfl⟩
set_option maxRecDepth 100000 in
set_option maxHeartbeats 400000 in
theorem layE_is {w : World} {pl p2 p3 p4 : Nat} {a : Option Addr} {n c : Nat} (hl : w.cell? ⟨pl, 0, none⟩ = some (.slice a n c)) {k : Nat} (hk : n ≤ k) : Calls Tryz.prog 338 #[.int .i64 k, .pointer (some ⟨pl, 0, none⟩), .pointer (some ⟨p2, 0, none⟩), .pointer (some ⟨p3, 0, none⟩), .pointer (some ⟨p4, 0, none⟩)] w fun e w' => e = .returned (.tuple #[]) ∧ w = w' := by
  have h1 : (n : Int) ≤ k := by omega
  go_enter Tryz.func338, Tryz.ntmps338
  go_wp2_with fail
  (try simp only [Exit.inBlock, Exit.then]); first | (refine bodyPost_ret (results_none rfl _ _ _) rfl ?_) | (refine bodyPost_end (results_none rfl _ _ _) rfl ?_)
  exact ⟨rfl, rfl⟩
set_option maxRecDepth 100000 in
set_option maxHeartbeats 400000 in
theorem walkE_is {w : World} {p1 p2 p3 p4 : Nat} {n : Nat} (hl : w.cell? ⟨p1, 0, none⟩ = some (.int .i64 n)) {k : Nat} (hk : n ≤ k) : Calls Tryz.prog 300 #[.int .i64 k, .pointer (some ⟨p1, 0, none⟩), .pointer (some ⟨p2, 0, none⟩), .pointer (some ⟨p3, 0, none⟩), .pointer (some ⟨p4, 0, none⟩)] w fun e w' => e = .returned (.tuple #[]) ∧ w = w' := by
  have h1 : ¬ (k : Int) < n := by omega
  go_enter Tryz.func300, Tryz.ntmps300
  go_wp2_with fail
  (try simp only [Exit.inBlock, Exit.then]); first | (refine bodyPost_ret (results_none rfl _ _ _) rfl ?_) | (refine bodyPost_end (results_none rfl _ _ _) rfl ?_)
  exact ⟨rfl, rfl⟩
set_option maxRecDepth 100000 in
set_option maxHeartbeats 400000 in
theorem right0_is (w : World) : Calls Tryz.prog 334 #[.slice none 0 0] w fun e w' => e = .returned (.int .i64 0) ∧ w = w' := by
  go_enter Tryz.func334, Tryz.ntmps334
  go_wp2_with fail
  refine wp_loop_rounds 1 ?_
  rw [rounds_succ]
  go_wp2_with fail
  go_ret
  exact ⟨rfl, rfl⟩
set_option maxRecDepth 100000 in
set_option maxHeartbeats 400000 in
theorem cloneE0_is (w : World) : Calls Tryz.prog 335 #[.slice none 0 0] w fun e w' => e = .returned (.slice none 0 0) ∧ w = w' := by
  have q22 : ∀ (w : World) (a : Option Addr) (n c n' c' : Nat), (binOp .eql 30 (.slice a n c) (.slice none n' c')).run Tryz.prog w = .ok (.bool a.isNone) w := fun w a n c n' c' => Lib.run_eql_slice_nil w _ _ a n c n' c' Tryz.underlying30
  go_enter Tryz.func335, Tryz.ntmps335
  go_wp2
  go_ret
  exact ⟨rfl, rfl⟩
end Go.Proofs.YtlfemcbfclallaaGreatDoor
namespace Go.Proofs.YtlfemcbfclallaaGreatDoor
open Go.RowKit Go.Maps
set_option linter.unusedVariables false
set_option linter.unusedSimpArgs false
theorem mkB0 (w : World) : (mkB (.int .i64 0) (.int .i64 0)).run Tryz.prog w = .ok (.slice (some ⟨w.heap.size, 0, none⟩) 0 0) (w.alloc (.cells #[] 5)) := mkB_run w 0 (by decide)
section
attribute [local go_sem ↓] mkB_eq
set_option maxRecDepth 100000 in
set_option maxHeartbeats 1000000 in
theorem dlay0_is (w : World) : Calls Tryz.prog 301 #[.slice none 0 0] w fun e w' => ∃ g, e = .returned (.tuple #[.slice (some ⟨g, 0, none⟩) 0 0, .int .i64 0]) ∧ w.heap.size ≤ g ∧ g < w'.heap.size ∧ Below w.heap.size w w' := by
  have HR := Lib.hid (fun w => right0_is w)
  have HC := Lib.hid (fun w => cloneE0_is w)
  have HS := Lib.hid (fun w f => sortE_is w f none 0 0 (.inl rfl))
  have hm := mkB0
  have HB := Lib.hid (Go.Joins.below_alloc1 w (.cells #[.slice none 0 0] 30))
  go_enter Tryz.func301, Tryz.ntmps301
  go_wp2_with (first | (go_at_call 334; (with_reducible refine (HR.out _).mono ?_); rintro e1 w1 ⟨rfl, rfl⟩) | (go_at_call 335; (with_reducible refine (HC.out _).mono ?_); rintro e1 w1 ⟨rfl, rfl⟩) | (go_at_call 336; (with_reducible refine (HS.out _ _).mono ?_); rintro e1 w1 ⟨rfl, rfl⟩) | (go_at_call 338; refine (layE_is (n := 0) (c := 0) (a := none) (by simp [go_sem]) (k := 0) (Nat.le_refl _)).mono ?_; rintro e1 w1 ⟨rfl, rfl⟩))
  go_ret2
  refine ⟨_, rfl, by simp <;> omega, by simp <;> omega, ?_⟩
  exact (((((HB.out.alloc HB.out.size _).alloc (by simp <;> omega) _).alloc (by simp <;> omega) _).alloc (by simp <;> omega) _))
set_option maxRecDepth 100000 in
set_option maxHeartbeats 400000 in
theorem eqN0 (w : World) (a : Option Addr) (c : Nat) : Calls Tryz.prog 10 #[.slice a 0 c, .slice none 0 0] w fun e w' => e = .returned (.bool true) ∧ w = w' := by
  go_enter Tryz.func10, Tryz.ntmps10
  go_wp2_with fail
  refine wp_loop_rounds 1 ?_
  rw [rounds_succ]
  go_wp2_with fail
  go_ret
  exact ⟨rfl, rfl⟩
set_option maxRecDepth 100000 in
set_option maxHeartbeats 1000000 in
theorem list0_is (w : World) : Calls Tryz.prog 246 #[.slice none 0 0] w fun e w' => e = .returned (.tuple #[.slice none 0 0, .int .i64 0]) ∧ Below w.heap.size w w' := by
  have HL := Lib.hid (fun w => dlay0_is w)
  have HE := Lib.hid (fun w a c => eqN0 w a c)
  have HB := Lib.hid (Go.Joins.below_alloc1 w (.cells #[.slice none 0 0] 22))
  go_enter Tryz.func246, Tryz.ntmps246
  go_wp2_with (first | (go_at_call 301; (with_reducible refine (HL.out _).mono ?_); rintro e1 w1 ⟨g1, rfl, hg1, hg2, hb1⟩; have d0 : w1.cell? ⟨w.heap.size, 0, none⟩ = some (.slice none 0 0) := (hb1.cell (p := ⟨w.heap.size, 0, none⟩) (by simp <;> omega)).trans (by simp [go_sem]); have d2 : w1.cell? ⟨w.heap.size + 1 + 1, 0, none⟩ = some (.slice none 0 0) := (hb1.cell (p := ⟨w.heap.size + 1 + 1, 0, none⟩) (by simp)).trans (by simp [go_sem]); have HB1 : Hid (Below w.heap.size w w1) := Lib.hid ((((HB.out.alloc (by simp <;> omega) _).alloc (by simp <;> omega) _).alloc (by simp <;> omega) _).trans (hb1.mono (by simp <;> omega))); clear hb1 hg1 hg2) | (go_at_call 10; (with_reducible refine (HE.out _ _ _).mono ?_); rintro e1 w1 ⟨rfl, rfl⟩) | (go_at_call 300; refine (walkE_is (n := 0) (by simp [go_sem]) (k := 0) (Nat.le_refl _)).mono ?_; rintro e1 w1 ⟨rfl, rfl⟩))
  go_ret2
  exact ⟨rfl, HB1.out⟩
end
end Go.Proofs.YtlfemcbfclallaaGreatDoor
namespace Go.Proofs.YtlfemcbfclallaaGreatDoor
open Go.RowKit Go.Maps
set_option linter.unusedVariables false
set_option linter.unusedSimpArgs false
structure E1 (w : World) (g o cap : Nat) : Prop where
  c0 : w.cell? ⟨g, o, none⟩ = some (.string ⟨#[102]⟩)
  c1 : w.cell? ⟨g, o + 1, none⟩ = some (.int .i64 2)
  l1 : 1 ≤ cap
  l2 : cap ≤ maxLen
  rw : o = 0 → ∃ C, Row w g 390 C ∧ C.size = cap * 2
theorem E1.lt {w : World} {g o cap : Nat} (h : E1 w g o cap) : g < w.heap.size := World.block_lt_of_cell? w _ h.c0
theorem E1.keep {w w' : World} {g o cap : Nat} (h : E1 w g o cap) (hb : Below w.heap.size w w') : E1 w' g o cap := ⟨(hb.cell (p := ⟨g, o, none⟩) h.lt).trans h.c0, (hb.cell (p := ⟨g, o + 1, none⟩) h.lt).trans h.c1, h.l1, h.l2, fun e => by obtain ⟨C, hr, hs⟩ := h.rw e; exact ⟨C, hr.keep hb, hs⟩⟩
theorem E1.upd {S : Nat → Prop} {w w' : World} {g o cap : Nat} (h : E1 w g o cap) (hu : Upd S w w') (hn : ¬ S g) : E1 w' g o cap := ⟨(hu.cell h.lt hn).trans h.c0, (hu.cell h.lt hn).trans h.c1, h.l1, h.l2, fun e => by obtain ⟨C, hr, hs⟩ := h.rw e; exact ⟨C, hr.upd hu hn, hs⟩⟩
set_option maxRecDepth 100000 in
set_option maxHeartbeats 400000 in
theorem didx0_is (w : World) (a : Option Addr) (c : Nat) (f : Value) : Calls Tryz.prog 330 #[.slice a 0 c, f] w fun e w' => e = .returned (.int .i64 (-1)) ∧ w = w' := by
  go_enter Tryz.func330, Tryz.ntmps330
  go_wp2_with fail
  refine wp_loop_rounds 1 ?_
  rw [rounds_succ]
  go_wp2_with fail
  go_ret
  exact ⟨rfl, rfl⟩
set_option maxRecDepth 100000 in
set_option maxHeartbeats 400000 in
theorem con0_is (w : World) (a : Option Addr) (c : Nat) (f : Value) : Calls Tryz.prog 318 #[.slice a 0 c, f] w fun e w' => e = .returned (.bool false) ∧ w = w' := by
  have H := Lib.hid (didx0_is w a c f)
  go_enter Tryz.func318, Tryz.ntmps318
  go_wp2_with (go_at_call 330; refine H.out.mono ?_; rintro e1 w1 ⟨rfl, rfl⟩)
  go_ret
  exact ⟨rfl, rfl⟩
set_option maxRecDepth 100000 in
set_option maxHeartbeats 1000000 in
theorem right1_is {w : World} {g o cap : Nat} (h : E1 w g o cap) : Calls Tryz.prog 334 #[.slice (some ⟨g, o, none⟩) 1 cap] w fun e w' => e = .returned (.int .i64 0) ∧ Below w.heap.size w w' := by
  have c0 := h.c0
  have c1 := h.c1
  have hcm : (cap : Int) ≤ 9223372036854775807 := by have := h.l2; unfold maxLen at this; omega
  have HN := Lib.hid (fun w => name_is w)
  have HC := Lib.hid (fun w a c f => con0_is w a c f)
  have HB := Lib.hid (Go.Joins.below_alloc1 w (.cells #[.string ⟨#[102]⟩, .int .i64 2] 390))
  clear h
  go_enter Tryz.func334, Tryz.ntmps334
  go_wp2_with fail
  refine wp_loop_rounds 2 ?_
  rw [rounds_succ]
  go_wp2_with (first | (go_at_call 203; (with_reducible refine (HN.out _).mono ?_); rintro e1 w1 ⟨rfl, rfl⟩) | (go_at_call 318; (with_reducible refine (HC.out _ _ _ _).mono ?_); rintro e1 w1 ⟨rfl, rfl⟩))
  rw [rounds_succ]
  go_wp2_with fail
  go_ret
  exact ⟨rfl, HB.out⟩
theorem infoE : (Tryz.prog.info? 390).map (fun i => (i.zero, i.size, i.bytes)) = some (some (.agg #[.string ⟨#[]⟩, .int .i64 0]), 2, 24) := by kernel_rfl
def dentC : List Value := [.string ⟨#[102]⟩, .int .i64 2]
theorem E1.of_own {w : World} {B : Nat} {v : Value} (h : w.ownsRow B 390 2 v 1 dentC) : ∃ g cap, v = .slice (some ⟨g, 0, none⟩) 1 cap ∧ B ≤ g ∧ E1 w g 0 cap := by
  rcases h.2 with ⟨_, h0⟩ | ⟨g, cap, cur, rfl, hB, hg, h1, h2, h3, h4⟩
  · omega
  · have hr : Row w g 390 cur := hg
    have hc : ∀ j, j < 2 → w.cell? ⟨g, j, none⟩ = dentC[j]? := fun j hj => by
      rw [hr.cell, ← h4, List.getElem?_take, if_pos (by omega), Array.getElem?_toList]
    exact ⟨g, cap, rfl, hB, hc 0 (by decide), hc 1 (by decide), h1, h2, fun _ => ⟨cur, hr, h3⟩⟩
set_option maxRecDepth 100000 in
set_option maxHeartbeats 1000000 in
theorem cloneE1_is {w : World} {g o cap : Nat} (h : E1 w g o cap) : Calls Tryz.prog 335 #[.slice (some ⟨g, o, none⟩) 1 cap] w fun e w' => ∃ g' cap', e = .returned (.slice (some ⟨g', 0, none⟩) 1 cap') ∧ w.heap.size ≤ g' ∧ E1 w' g' 0 cap' ∧ Below w.heap.size w w' := by
  have q22 : ∀ (w : World) (a : Option Addr) (n c n' c' : Nat), (binOp .eql 30 (.slice a n c) (.slice none n' c')).run Tryz.prog w = .ok (.bool a.isNone) w := fun w a n c n' c' => Lib.run_eql_slice_nil w _ _ a n c n' c' Tryz.underlying30
  have hcl : ∀ j u, dentC[j]? = some u → w.cell? ((⟨g, o, none⟩ : Addr).add j) = some u := fun j u hj => by
    rw [Addr.add_lit]
    rcases j with _ | _ | j
    · rw [← hj]; exact h.c0
    · rw [← hj]; exact h.c1
    · simp [dentC] at hj
  have HC := Lib.hid hcl
  have hcm : (cap : Int) ≤ 9223372036854775807 := by have := h.l2; unfold maxLen at this; omega
  have HN := Lib.hid (fun (w' : World) (v : Value) (q : w'.ownsRow w.heap.size 390 2 v 1 dentC) => E1.of_own q)
  have ho : ∀ u ∈ dentC, u.oneCell' = true := by intro u hu; simp [dentC] at hu; rcases hu with rfl | rfl <;> rfl
  have HO := Lib.hid ho
  clear hcl h ho
  obtain ⟨i0, hi, hz0, hz1, hz2⟩ := info_parts infoE
  go_enter Tryz.func335, Tryz.ntmps335
  go_wp2_with (at_builtin; go_loud (refine wpList_append_fresh _ rfl (.tmp 5) (.tmp 6) 30 rfl w.heap.size 390 i0 _ 2 24 Tryz.underlying30 hi hz0 hz1 hz2 rfl (by decide) _ _ _ rfl (World.ownsRow_made w #[] 0 (Nat.le_refl _) (Nat.zero_le _) rfl) ⟨g, o, none⟩ 1 _ dentC rfl (by decide) (fun j u h => by have := HC.out j u h; rw [World.cell?_alloc_lt]; exact this; exact World.block_lt_of_cell? w _ this) HO.out (by unfold maxLen; omega) (by omega) (by simp) ?_))
  intro v' w1 hown hgrow hfresh
  have hb1 : Below w.heap.size w w1 := ((Below.refl _ _).alloc (Nat.le_refl _) _).grown hgrow (by simp) (fun g hg => by simp [Value.ownBlock] at hg; omega)
  clear hgrow hfresh
  obtain ⟨g', cap', rfl, e1, e2⟩ := HN.out w1 v' (by simpa using hown)
  have HR := Lib.hid (And.intro e1 (And.intro e2 hb1))
  clear hown e1 e2 hb1
  go_wp2_with fail
  go_ret
  exact ⟨g', cap', rfl, HR.out⟩
end Go.Proofs.YtlfemcbfclallaaGreatDoor
