/- The walks of ringkeep5's spoil: of bytes, of numbers, of entries. A kernel that has begun, as one state. Printed by gen_kerx2.py. Calls and their rows; a task that is awake and has no signal. The first task of a kernel that has begun: who it is. What an answer with bytes may be, and how the kernel and its file system stand behind it. -/
import Derived.Test.YtcdjkheelbikjaaGreatDoorLsB
import Derived.Test.YtcdjkheelbikjaaGreatDoorFwB
import Derived.Test.YtcdjkheelbikjaaGreatDoorFsA
import Derived.Test.YtcdjkheelbikjaaGreatDoorKfB
import Derived.Test.YtcdjkheelbikjaaGreatDoorSlA
namespace Go.Proofs.YtcdjkheelbikjaaGreatDoor
open Go.RowKit
set_option linter.unusedVariables false
set_option linter.unusedSimpArgs false
theorem ld_ent (v : Value) : Instr.loadAt 45 v = ldR 45 v := rfl
theorem st_ent (p v : Value) : Instr.storeAt 45 p v = stR 45 p v := rfl
set_option maxRecDepth 100000 in
set_option maxHeartbeats 800000 in
theorem spoilB0_is (w : World) (x : Int) : Calls Tryz.prog 9 #[.slice none 0 0, .int .u8 x] w fun e w' => e = .returned (.tuple #[]) ∧ w = w' := by
  go_enter Tryz.func9, Tryz.ntmps9
  go_wp2_with fail
  refine wp_loop_rounds 1 ?_
  rw [rounds_succ]
  go_wp2_with fail
  (try simp only [Exit.inBlock, Exit.then]); first | (refine bodyPost_ret (results_none rfl _ _ _) rfl ?_) | (refine bodyPost_end (results_none rfl _ _ _) rfl ?_)
  exact ⟨rfl, rfl⟩
set_option maxRecDepth 100000 in
set_option maxHeartbeats 800000 in
theorem spoilB1_is {w : World} {g n cap : Nat} {C : Array Value} (hr : Row w g 5 C) (hs : C.size = cap) (hn : n ≤ cap) (hc : cap ≤ maxLen) (x : Int) : Calls Tryz.prog 9 #[.slice (some ⟨g, 0, none⟩) n cap, .int .u8 x] w fun e w' => e = .returned (.tuple #[]) ∧ Upd (fun j => j = g) w w' := by
  have hcm : (cap : Int) ≤ 9223372036854775807 := by unfold maxLen at hc; omega
  have i0 : (n : Int) ≤ cap := by omega
  have HR := Lib.hid (show ∃ C, Row w g 5 C ∧ C.size = cap from ⟨C, hr, hs⟩)
  clear hr hs hc
  go_enter Tryz.func9, Tryz.ntmps9
  go_wp2_with fail
  go_loopw [11] (fun iv wr => ∃ i : Nat, i ≤ cap ∧ iv = .int .i64 i ∧ Hid (∃ C, Row wr g 5 C ∧ C.size = cap) ∧ Hid (Upd (fun j => j = g) w wr)) (fun iv _ => cap - (intOf iv).toNat)
  case atStart => exact ⟨0, by omega, rfl, HR, Lib.hid (Upd.refl _ _)⟩
  case round =>
    clear HR
    obtain ⟨i, hi0, rfl, HR, HU⟩ := hrel
    by_cases hi : i < cap
    · have i1 : (i : Int) < cap := by omega
      have i2 : (0 : Int) ≤ i := by omega
      obtain ⟨C, hr, hs⟩ := HR.out
      obtain ⟨u, hu⟩ : ∃ u, C[i]? = some u := ⟨_, Array.getElem?_eq_getElem (by omega)⟩
      have c1 : wr.cell? ⟨g, i, none⟩ = some u := (hr.cell i).trans hu
      have z1 := hr.fz i
      have HN : Hid (∃ C, Row (wr.setCell ⟨g, i, none⟩ (.int .u8 x)) g 5 C ∧ C.size = cap) := Lib.hid ⟨C.setIfInBounds i (.int .u8 x), by rw [hr.setCell]; exact hr.setRow _, by simpa using hs⟩
      have HU1 : Hid (Upd (fun j => j = g) w (wr.setCell ⟨g, i, none⟩ (.int .u8 x))) := Lib.hid (HU.out.trans (Upd.set wr _ rfl))
      clear hr hs hu HR HU
      go_wp2_with fail
      go_roundw
      case rel => exact ⟨i + 1, by omega, by go_num, HN, HU1⟩
      case measure => simp [intOf]; omega
    · obtain rfl : i = cap := by omega
      go_wp2_with fail
      (try simp only [Exit.inBlock, Exit.then]); first | (refine bodyPost_ret (results_none rfl _ _ _) rfl ?_) | (refine bodyPost_end (results_none rfl _ _ _) rfl ?_)
      exact ⟨rfl, HU.out⟩
set_option maxRecDepth 100000 in
set_option maxHeartbeats 800000 in
theorem spoilI0_is (w : World) (x : Int) : Calls Tryz.prog 14 #[.slice none 0 0, .int .i64 x] w fun e w' => e = .returned (.tuple #[]) ∧ w = w' := by
  go_enter Tryz.func14, Tryz.ntmps14
  go_wp2_with fail
  refine wp_loop_rounds 1 ?_
  rw [rounds_succ]
  go_wp2_with fail
  (try simp only [Exit.inBlock, Exit.then]); first | (refine bodyPost_ret (results_none rfl _ _ _) rfl ?_) | (refine bodyPost_end (results_none rfl _ _ _) rfl ?_)
  exact ⟨rfl, rfl⟩
set_option maxRecDepth 100000 in
set_option maxHeartbeats 800000 in
theorem spoilI1_is {w : World} {g n cap : Nat} {C : Array Value} (hr : Row w g 3 C) (hs : C.size = cap) (hn : n ≤ cap) (hc : cap ≤ maxLen) (x : Int) : Calls Tryz.prog 14 #[.slice (some ⟨g, 0, none⟩) n cap, .int .i64 x] w fun e w' => e = .returned (.tuple #[]) ∧ Upd (fun j => j = g) w w' := by
  have hcm : (cap : Int) ≤ 9223372036854775807 := by unfold maxLen at hc; omega
  have i0 : (n : Int) ≤ cap := by omega
  have HR := Lib.hid (show ∃ C, Row w g 3 C ∧ C.size = cap from ⟨C, hr, hs⟩)
  clear hr hs hc
  go_enter Tryz.func14, Tryz.ntmps14
  go_wp2_with fail
  go_loopw [11] (fun iv wr => ∃ i : Nat, i ≤ cap ∧ iv = .int .i64 i ∧ Hid (∃ C, Row wr g 3 C ∧ C.size = cap) ∧ Hid (Upd (fun j => j = g) w wr)) (fun iv _ => cap - (intOf iv).toNat)
  case atStart => exact ⟨0, by omega, rfl, HR, Lib.hid (Upd.refl _ _)⟩
  case round =>
    clear HR
    obtain ⟨i, hi0, rfl, HR, HU⟩ := hrel
    by_cases hi : i < cap
    · have i1 : (i : Int) < cap := by omega
      have i2 : (0 : Int) ≤ i := by omega
      obtain ⟨C, hr, hs⟩ := HR.out
      obtain ⟨u, hu⟩ : ∃ u, C[i]? = some u := ⟨_, Array.getElem?_eq_getElem (by omega)⟩
      have c1 : wr.cell? ⟨g, i, none⟩ = some u := (hr.cell i).trans hu
      have z1 := hr.fz i
      have HN : Hid (∃ C, Row (wr.setCell ⟨g, i, none⟩ (.int .i64 x)) g 3 C ∧ C.size = cap) := Lib.hid ⟨C.setIfInBounds i (.int .i64 x), by rw [hr.setCell]; exact hr.setRow _, by simpa using hs⟩
      have HU1 : Hid (Upd (fun j => j = g) w (wr.setCell ⟨g, i, none⟩ (.int .i64 x))) := Lib.hid (HU.out.trans (Upd.set wr _ rfl))
      clear hr hs hu HR HU
      go_wp2_with fail
      go_roundw
      case rel => exact ⟨i + 1, by omega, by go_num, HN, HU1⟩
      case measure => simp [intOf]; omega
    · obtain rfl : i = cap := by omega
      go_wp2_with fail
      (try simp only [Exit.inBlock, Exit.then]); first | (refine bodyPost_ret (results_none rfl _ _ _) rfl ?_) | (refine bodyPost_end (results_none rfl _ _ _) rfl ?_)
      exact ⟨rfl, HU.out⟩
theorem spoilB_is {w : World} {B : Nat} {v : Value} {l : List Int} (h : OB B w v l) (x : Int) : Calls Tryz.prog 9 #[v, .int .u8 x] w fun e w' => e = .returned (.tuple #[]) ∧ Upd (fun j => v.ownBlock = some j) w w' := by
  rcases h.2 with ⟨rfl, h0⟩ | ⟨g, cap, cur, rfl, hB, hg, h1, h2, h3, h4⟩
  · refine (spoilB0_is w x).mono ?_
    rintro e w' ⟨rfl, rfl⟩
    exact ⟨rfl, Upd.refl _ _⟩
  · refine (spoilB1_is (show Row w g 5 cur from hg) (by rw [h3, Nat.mul_one]) h1 h2 x).mono ?_
    rintro e w' ⟨rfl, hu⟩
    exact ⟨rfl, hu.mono fun j _ e => by rw [e]; rfl⟩
theorem spoilI_is {w : World} {B n : Nat} {v : Value} {l : List Value} (h : w.ownsRow B 3 1 v n l) (x : Int) : Calls Tryz.prog 14 #[v, .int .i64 x] w fun e w' => e = .returned (.tuple #[]) ∧ Upd (fun j => v.ownBlock = some j) w w' := by
  rcases h.2 with ⟨rfl, h0⟩ | ⟨g, cap, cur, rfl, hB, hg, h1, h2, h3, h4⟩
  · refine (spoilI0_is w x).mono ?_
    rintro e w' ⟨rfl, rfl⟩
    exact ⟨rfl, Upd.refl _ _⟩
  · refine (spoilI1_is (show Row w g 3 cur from hg) (by rw [h3, Nat.mul_one]) h1 h2 x).mono ?_
    rintro e w' ⟨rfl, hu⟩
    exact ⟨rfl, hu.mono fun j _ e => by rw [e]; rfl⟩
section
attribute [local go_sem ↓] ld_ent st_ent
set_option maxRecDepth 100000 in
set_option maxHeartbeats 1000000 in
theorem spoilE_is {w : World} {g cap : Nat} {C : Array Value} (hr : Row w g 45 C) (hs : C.size = cap * 2) (hn : 1 ≤ cap) (hc : cap ≤ maxLen) (s : ByteArray) (m : Int) : Calls Tryz.prog 12 #[.slice (some ⟨g, 0, none⟩) 1 cap, .agg #[.string s, .int .i64 m]] w fun e w' => e = .returned (.tuple #[]) ∧ Upd (fun j => j = g) w w' := by
  have hcm : (cap : Int) ≤ 9223372036854775807 := by unfold maxLen at hc; omega
  have i0 : (1 : Int) ≤ cap := by omega
  have hal := Go.Joins.below_alloc1 w (.cells #[.string s, .int .i64 m] 45)
  have hrb := row_new w 45 #[.string s, .int .i64 m]
  have HG : Hid (g < w.heap.size) := Lib.hid hr.lt
  have HR := Lib.hid (show ∃ C, Row (w.alloc (.cells #[.string s, .int .i64 m] 45)) g 45 C ∧ C.size = cap * 2 from ⟨C, hr.keep hal, hs⟩)
  have HB := Lib.hid hal
  have HE := Lib.hid hrb
  clear hr hs hc hal hrb
  go_enter Tryz.func12, Tryz.ntmps12
  go_upto_region 1 with fail
  obtain ⟨bx, hbx⟩ : ∃ bx, bx = w.heap.size := ⟨_, rfl⟩
  rw [← hbx] at HE HG ⊢
  have HBX := Lib.hid hbx
  clear hbx
  generalize w.alloc (.cells #[.string s, .int .i64 m] 45) = w0 at *
  go_wp2_with fail
  go_loopw [11] (fun iv wr => ∃ i : Nat, i ≤ cap ∧ iv = .int .i64 i ∧ Hid (∃ C, Row wr g 45 C ∧ C.size = cap * 2) ∧ Hid (Upd (fun j => j = g) w0 wr)) (fun iv _ => cap - (intOf iv).toNat)
  case atStart => exact ⟨0, by omega, rfl, HR, Lib.hid (Upd.refl _ _)⟩
  case round =>
    clear HR
    obtain ⟨i, hi0, rfl, HR, HU⟩ := hrel
    by_cases hi : i < cap
    · have i1 : (i : Int) < cap := by omega
      have i2 : (0 : Int) ≤ i := by omega
      obtain ⟨C, hr, hs⟩ := HR.out
      have hre : Row wr bx 45 #[.string s, .int .i64 m] := HE.out.upd HU.out (by have := HG.out; omega)
      have l3 := hre.ld0 Tryz.underlying45 rfl (by kernel_rfl)
      have hst := hr.st (U := 45) (o := i * 2) (cs := #[.string s, .int .i64 m]) (by rw [hs]; show i * 2 + 2 ≤ cap * 2; omega) (by kernel_rfl) (by simp [Value.oneCell'])
      have HN : Hid (∃ C', Row (wr.setRow g (putA C (i * 2) (#[.string s, .int .i64 m] : Array Value).toList)) g 45 C' ∧ C'.size = cap * 2) := Lib.hid ⟨_, hr.setRow _, by rw [putA_size (by rw [hs]; show i * 2 + 2 ≤ cap * 2; omega)]; exact hs⟩
      have HU1 : Hid (Upd (fun j => j = g) w0 (wr.setRow g (putA C (i * 2) (#[.string s, .int .i64 m] : Array Value).toList))) := Lib.hid (HU.out.trans (Upd.setRow wr _ rfl))
      clear hr hs hre HR HU
      generalize wr.setRow g (putA C (i * 2) (#[.string s, .int .i64 m] : Array Value).toList) = w5 at *
      go_wp2_with fail
      go_roundw
      case rel => exact ⟨i + 1, by omega, by go_num, HN, HU1⟩
      case measure => simp [intOf]; omega
    · obtain rfl : i = cap := by omega
      go_wp2_with fail
      (try simp only [Exit.inBlock, Exit.then]); first | (refine bodyPost_ret (results_none rfl _ _ _) rfl ?_) | (refine bodyPost_end (results_none rfl _ _ _) rfl ?_)
      exact ⟨rfl, (Upd.below HB.out).trans HU.out⟩
end
end Go.Proofs.YtcdjkheelbikjaaGreatDoor
namespace Go.Proofs.YtcdjkheelbikjaaGreatDoor
open Go.RowKit
set_option linter.unusedVariables false
set_option linter.unusedSimpArgs false
theorem KS.toKT2 {w : World} {B K P Wh Fi Pr R M so sp : Nat} {c : Nat → Value} (h : KS w B K P Wh Fi Pr R M so sp c) : ∃ tag T cc wb, KT w ⟨K, Wh, Fi, Pr, R, M, so⟩ (sS0 c tag T cc sp wb) ∧ c 63 = .slice (some ⟨wb, 0, none⟩) 1 1 ∧ ∀ j, tag j ≠ 0 → B ≤ j ∧ (j ≤ M ∨ sp ≤ j) := by
  obtain ⟨T, cc, hru, hspT⟩ := h.ru
  obtain ⟨wb, hc63, hwb, hspw⟩ := h.wd
  obtain ⟨T', C, e, hT⟩ := hru.rows (by decide)
  injection e with e
  injection e with e
  subst e
  have hTw : T ≠ wb := fun e => by
    have r1 := hT.row
    have r2 := hwb
    rw [e] at r1
    have r3 : some (Obj.cells C 194) = some (Obj.cells #[.int .i64 1] 3) := r1.symm.trans r2
    injection r3 with r3
    injection r3 with _ r4
    exact absurd r4 (by decide)
  have b := h.kp.b
  have o := h.or
  refine ⟨fun j => if j = K then 1 else if j = Wh then 2 else if j = Fi then 3 else if j = Pr then 4 else if j = R ∨ j = T then 5 else if j = M ∨ j = so ∨ j = sp then 6 else if j = wb then 7 else 0, T, cc, wb, ⟨h.kr, h.c1, h.c4, h.c5, h.c6, h.c7, h.kp.wh, h.kp.fi, h.kp.pr, hru, mem0 h.mm h.om h.im o.2.2.1 o.2.2.2, fun p q hq => ?_, ?_, ?_, ?_, ?_, fun j hj => ?_, fun j hj => ?_, fun j hj => ?_⟩, hc63, fun j hj => ⟨?_, ?_⟩⟩
  · simp only [sS0] at hq
    split at hq
    · rename_i hp
      injection hq with hq
      subst hp
      subst hq
      refine ⟨⟨1, hc63⟩, by rw [hwb.cell]; rfl, hwb.lt, ?_⟩
      simp only [sS0]
      rw [if_neg (by omega), if_neg (by omega), if_neg (by omega), if_neg (by omega), if_neg (by omega), if_neg (by omega), if_pos trivial]
    · cases hq
  · simp only [sS0]; rw [if_pos trivial]
  · simp only [sS0]; rw [if_neg (by omega), if_pos trivial]
  · simp only [sS0]; rw [if_neg (by omega), if_neg (by omega), if_pos trivial]
  · simp only [sS0]; rw [if_neg (by omega), if_neg (by omega), if_neg (by omega), if_pos trivial]
  · have hj : j = R ∨ j = T := by
      rcases hj with q | ⟨a, q, q2⟩
      · exact .inl q
      · simp only [sS0] at q
        injection q with q
        subst q
        exact .inr q2
    simp only [sS0]
    rw [if_neg (by omega), if_neg (by omega), if_neg (by omega), if_neg (by omega), if_pos hj]
  · have hj : j = M ∨ j = so ∨ j = sp := by
      rcases hj with q | q | q | ⟨x, q⟩ | q
      · exact .inl q
      · exact .inr (.inl q)
      · cases q
      · simp only [sS0, mS0] at q
        split at q
        · injection q with q; exact .inr (.inr q.symm)
        · cases q
      · cases q
    have n : ¬ (j = R ∨ j = T) := by omega
    simp only [sS0]
    rw [if_neg (by omega), if_neg (by omega), if_neg (by omega), if_neg (by omega), if_neg n, if_pos hj]
  · have l1 := h.kr.lt
    have l2 := hru.lt
    have l3 := hT.row.lt
    have l4 := h.mm.lt
    have l5 := hwb.lt
    obtain ⟨D, ⟨es, ck, hb, _⟩, _⟩ := h.im
    have l6 := (Array.getElem?_eq_some_iff.1 hb).1
    simp only [sS0]
    rw [if_neg (by omega), if_neg (by omega), if_neg (by omega), if_neg (by omega), if_neg (by omega), if_neg (by omega), if_neg (by omega)]
  · rcases Nat.lt_or_ge j B with q | q
    · exfalso
      apply hj
      simp only
      rw [if_neg (by omega), if_neg (by omega), if_neg (by omega), if_neg (by omega), if_neg (by omega), if_neg (by omega), if_neg (by omega)]
    · exact q
  · by_cases q : j ≤ M ∨ sp ≤ j
    · exact q
    · exfalso
      apply hj
      simp only
      rw [if_neg (by omega), if_neg (by omega), if_neg (by omega), if_neg (by omega), if_neg (by omega), if_neg (by omega), if_neg (by omega)]
end Go.Proofs.YtcdjkheelbikjaaGreatDoor
namespace Go.Proofs.YtcdjkheelbikjaaGreatDoor
open Go.RowKit
set_option linter.unusedVariables false
set_option linter.unusedSimpArgs false
def callA (n a b c : Int) : Array Value := #[.int .i64 n, .int .i64 a, .int .i64 b, .int .i64 c, .string ByteArray.empty, .string ByteArray.empty, .slice none 0 0]
def bdC (ps : Array (Nat × Value)) : Sem Value := Instr.build 40 ps
theorem bd_call (ps : Array (Nat × Value)) : Instr.build 40 ps = bdC ps := rfl
theorem bdc_0 (w : World) (n : Int) : (bdC #[(0, .int .i64 n)]).run Tryz.prog w = .ok (.agg (callA n 0 0 0)) w := by kernel_rfl
theorem bdc_1 (w : World) (n a : Int) : (bdC #[(0, .int .i64 n), (1, .int .i64 a)]).run Tryz.prog w = .ok (.agg (callA n a 0 0)) w := by kernel_rfl
theorem bdc_3 (w : World) (n a b c : Int) : (bdC #[(0, .int .i64 n), (1, .int .i64 a), (2, .int .i64 b), (3, .int .i64 c)]).run Tryz.prog w = .ok (.agg (callA n a b c)) w := by kernel_rfl
theorem ans_new (w : World) (e a b : Int) : (stR 37 (.pointer (some ⟨w.heap.size, 0, none⟩)) (.agg (ansV e a b (.slice none 0 0)))).run Tryz.prog (w.alloc (.cells #[.int .i64 0, .int .i64 0, .int .i64 0, .slice none 0 0, .slice none 0 0, .int .i64 0, .int .i64 0, .int .i64 0, .int .i64 0, .int .i64 0, .int .i64 0] 37)) = .ok () (w.alloc (.cells (ansV e a b (.slice none 0 0)) 37)) := st0_new w rfl (by kernel_rfl) (ansV_one _ _ _ rfl)
theorem start1 : (ProcLaw.start 1).st = 1 := by decide
theorem start1n : (ProcLaw.start 1).st ≠ 0 := by decide
theorem start2 : (ProcLaw.start 2).st = 0 := by decide
theorem f0n : 0 ≤ OpenLaw.f0.n ∧ OpenLaw.f0.n ≤ 200 := by decide
/-- a task that is awake and has no signal -/
def Calm (c : Nat → Value) (p : Nat) : Prop := c (8 + p * 38 + 37) = .bool false ∧ ∀ j, j < 18 → c (8 + p * 38 + 19 + j) = .int .i64 0
theorem Calm.other {c c' : Nat → Value} {p q : Nat} (h : Calm c q) (hc : ∀ j, (j < 8 + p * 38 ∨ 8 + p * 38 + 38 ≤ j) → c' j = c j) (hn : q ≠ p) : Calm c' q := ⟨(hc _ (by omega)).trans h.1, fun j hj => (hc _ (by omega)).trans (h.2 j hj)⟩
theorem Calm.awake {s : KSt} {p : Nat} (h : Calm s.c p) (h1 : 1 ≤ p) (h2 : p ≤ 16) (hl : (s.t p).st = 1) : Awake s p := ⟨h1, h2, hl, h.1, h.2⟩
theorem kz_sigs (j : Nat) (hj : j < 18) : kz (65 + j) = .int .i64 0 := by
  have h := congrArg (fun l => l[j]?) kz_sig
  simp only [List.getElem?_map, List.getElem?_replicate, if_pos hj, List.getElem?_range hj, Option.map_some] at h
  injection h
section
variable {w : World} {B K P Wh Fi Pr R M so sp : Nat} {c : Nat → Value}
theorem KS.calm (h : KS w B K P Wh Fi Pr R M so sp c) : Calm c 1 := ⟨h.sl, fun j hj => (h.sg j hj).trans (kz_sigs j hj)⟩
end
end Go.Proofs.YtcdjkheelbikjaaGreatDoor
namespace Go.Proofs.YtcdjkheelbikjaaGreatDoor
open Go.RowKit
set_option linter.unusedVariables false
set_option linter.unusedSimpArgs false
section
variable {w : World} {B K P Wh Fi Pr R M so sp Tb cc wb : Nat} {c : Nat → Value} {tag : Nat → Nat}
theorem who1 (hs : KS w B K P Wh Fi Pr R M so sp c) (h63 : c 63 = .slice (some ⟨wb, 0, none⟩) 1 1) (hg : w.cell? ⟨wb, 0, none⟩ = some (.int .i64 1)) : Who w (sS0 c tag Tb cc sp wb) 1 0 127 none 0 wb 1 := by
  obtain ⟨h0, h1, h2, h3, h4, h5, h6⟩ := hs.tk
  refine ⟨by decide, fun i hi => ?_, h63, ?_, hg, Nat.zero_le _, by decide, by decide, by decide, by decide⟩
  · have : i = 0 ∨ i = 1 ∨ i = 2 ∨ i = 3 ∨ i = 4 ∨ i = 5 := by omega
    rcases this with rfl | rfl | rfl | rfl | rfl | rfl
    · exact congrArg some h1.symm
    · exact congrArg some h2.symm
    · exact congrArg some h3.symm
    · exact congrArg some h4.symm
    · exact congrArg some h5.symm
    · exact congrArg some h6.symm
  · show c 64 = _
    rw [hs.ck 64 (by decide) (by decide) (.inr (by decide))]
    unfold kz
    kernel_rfl
end
end Go.Proofs.YtcdjkheelbikjaaGreatDoor
namespace Go.Proofs.YtcdjkheelbikjaaGreatDoor
open Go.RowKit
set_option linter.unusedVariables false
set_option linter.unusedSimpArgs false
/-- as KOutF, with bytes that are nobody's -/
def KOutD (B0 : Nat) (k : KC) (fc : FC) (tag0 : Nat → Nat) (bs0 : Nat → Prop) (T : KSt → FM → Int → Int → Int → List Int → Prop) (w : World) (X : Array Value) (w' : World) : Prop :=
  ∃ s x e a b d l, KF w' k s fc x ∧ FarT tag0 w.heap.size s.tag ∧ (∀ j, x.bs j → bs0 j ∨ w.heap.size ≤ j) ∧ X = ansV e a b d ∧ OB w.heap.size w' d l ∧ (∀ j, d.ownBlock = some j → s.tag j = 0 ∧ ¬ x.bs j) ∧ T s x e a b l ∧ Upd (fun j => tag0 j ≠ 0 ∨ bs0 j ∨ w.heap.size ≤ j) w w'
theorem koutD_ok {w0 : World} {k : KC} {fc : FC} {tag0 : Nat → Nat} {bs0 : Nat → Prop} (hz : ∀ j, w0.heap.size ≤ j → tag0 j = 0) (hb : ∀ j, bs0 j → j < w0.heap.size) (T : KSt → FM → Int → Int → Int → List Int → Prop) : OutOk w0 (KOutD w0.heap.size k fc tag0 bs0 T) := by
  refine ⟨?_, ?_, ?_⟩
  · rintro w w1 w2 b C X h0 h1 ⟨s, x, e, a, r, d, l, hs, hf, hx, hX, ho, hd, hT, hU⟩ hb0 hb1
    have z0 := h0.size
    have z1 := h1.size
    have u : Upd (fun k => k = b) w2 (w2.setRow b C) := Upd.setRow w2 C rfl
    refine ⟨s, x, e, a, r, d, l, hs.upd u (fun j hj q => ?_) (fun j hj q => ?_), fun j hj => ?_, fun j hj => ?_, hX, (ho.upd u (fun g hg q => ?_)).base z1, hd, hT, ((Upd.below h1).trans (hU.mono fun i _ e => ?_)).trans' u (fun i hi e => by omega)⟩
    · have q : j = b := q
      rcases hf j hj with e | e
      · exact e (hz j (by omega))
      · omega
    · have q : j = b := q
      rcases hx j hj with e | e
      · have := hb j e; omega
      · omega
    · exact (hf j hj).imp_right fun e => by omega
    · exact (hx j hj).imp_right fun e => by omega
    · have q : g = b := q
      have := (ho.lt g hg).1
      omega
    · exact e.imp_right fun e => e.imp_right fun e => by omega
  · rintro w w1 w2 X h0 h1 ⟨s, x, e, a, r, d, l, hs, hf, hx, hX, ho, hd, hT, hU⟩
    have z1 := h1.size
    exact ⟨s, x, e, a, r, d, l, hs, fun j hj => (hf j hj).imp_right fun e => by omega, fun j hj => (hx j hj).imp_right fun e => by omega, hX, ho.base z1, hd, hT, (Upd.below h1).trans (hU.mono fun i _ e => e.imp_right fun e => e.imp_right fun e => by omega)⟩
  · rintro w X w2 w3 ⟨s, x, e, a, r, d, l, hs, hf, hx, hX, ho, hd, hT, hU⟩ hb
    exact ⟨s, x, e, a, r, d, l, hs.keep hb, hf, hx, hX, ho.keep hb, hd, hT, hU.trans (Upd.below hb)⟩
/-- the kernel under way, and the answers' rows -/
structure ED (w0 w : World) (k : KC) (s : KSt) (fc : FC) (x : FM) (l : List (Nat × Array Value)) : Prop where
  kf : KF w k s fc x
  hb : Below w0.heap.size w0 w
  lo : ∀ j, s.tag j ≠ 0 → w0.heap.size ≤ j
  lb : ∀ j, x.bs j → w0.heap.size ≤ j
  rows : ∀ p, p ∈ l → Row w p.1 37 p.2 ∧ s.tag p.1 = 0 ∧ ¬ x.bs p.1
section
variable {w0 w w1 w' : World} {k : KC} {s : KSt} {fc : FC} {x : FM} {l : List (Nat × Array Value)} {T : KSt → FM → Int → Int → Int → List Int → Prop} {X : Array Value} {p : Nat} {A : Array Value}
theorem ED.keep (h : ED w0 w k s fc x l) (hb : Below w.heap.size w w') : ED w0 w' k s fc x l := ⟨h.kf.keep hb, h.hb.trans (hb.mono h.hb.size), h.lo, h.lb, fun p hp => ⟨(h.rows p hp).1.keep hb, (h.rows p hp).2⟩⟩
/-- what stays at a call: blocks with neither a tag nor a place in the file system -/
theorem KOutD.stay (ho : KOutD w.heap.size k fc s.tag x.bs T w X w') {j : Nat} (hj : j < w.heap.size) (h1 : s.tag j = 0) (h2 : ¬ x.bs j) : w'.heap[j]? = w.heap[j]? := by
  obtain ⟨s', x', e, a, b, d, dl, hk, hf, hx, rfl, hO, hd, hT, hU⟩ := ho
  exact hU.block j hj (fun e => by rcases e with e | e | e; exact e h1; exact h2 e; omega)
theorem ED.asked (h : ED w0 w k s fc x l) (ho : KOutD w.heap.size k fc s.tag x.bs T w X w') : ∃ s' x' e a b d dl, X = ansV e a b d ∧ T s' x' e a b dl ∧ OB w.heap.size w' d dl ∧ ED w0 (w'.alloc (.cells X 37)) k s' fc x' ((w'.heap.size, X) :: l) ∧ (∀ j, d.ownBlock = some j → s'.tag j = 0 ∧ ¬ x'.bs j) ∧ FarT s.tag w.heap.size s'.tag ∧ (∀ j, x'.bs j → x.bs j ∨ w.heap.size ≤ j) ∧ Upd (fun j => s.tag j ≠ 0 ∨ x.bs j ∨ w.heap.size ≤ j) w w' := by
  obtain ⟨s', x', e, a, b, d, dl, hk, hf, hx, rfl, hO, hd, hT, hU⟩ := ho
  have z0 := h.hb.size
  have z2 := hU.size
  have al := Go.Joins.below_alloc1 w' (.cells (ansV e a b d) 37)
  refine ⟨s', x', e, a, b, d, dl, rfl, hT, hO, ⟨hk.keep al, (h.hb.trans (hU.toBelow z0 (fun j hj q => ?_))).trans (al.mono (by omega)), fun j hj => ?_, fun j hj => ?_, fun q hq => ?_⟩, hd, hf, hx, hU⟩
  · rcases q with q | q | q
    · have := h.lo j q; omega
    · have := h.lb j q; omega
    · omega
  · rcases hf j hj with q | q
    · exact h.lo j q
    · omega
  · rcases hx j hj with q | q
    · exact h.lb j q
    · omega
  · rcases List.mem_cons.1 hq with rfl | hq
    · exact ⟨row_new _ _ _, hk.kt.tz _ (Nat.le_refl _), fun e => by have := hk.fs.lt _ e; omega⟩
    · obtain ⟨r1, r2, r3⟩ := h.rows q hq
      have hlt := r1.lt
      refine ⟨(r1.upd hU (fun e => ?_)).keep al, ?_, fun e => ?_⟩
      · rcases e with e | e | e
        · exact e r2
        · exact r3 e
        · omega
      · cases Nat.eq_zero_or_pos (s'.tag q.1) with
        | inl e => exact e
        | inr e =>
          rcases hf q.1 (by omega) with e2 | e2
          · exact absurd r2 e2
          · omega
      · rcases hx q.1 e with e2 | e2
        · exact r3 e2
        · omega
theorem ED.ask (h : ED w0 w k s fc x l) (haw : Awake s p) (hA : A.size = 7) (hs : OutOk w (KOutD w.heap.size k fc s.tag x.bs T) → Spec w (KOutD w.heap.size k fc s.tag x.bs T) 24 #[.pointer (some ⟨k.K, 0, none⟩), .int .i64 p, .agg A]) :
    Calls Tryz.prog 10 #[.pointer (some ⟨k.K, 0, none⟩), .int .i64 p, .agg A] w fun e2 w' => ∃ s' x' e a b d dl, e2 = .returned (.agg (ansV e a b d)) ∧ T s' x' e a b dl ∧ OB w.heap.size w' d dl ∧ ED w0 (w'.alloc (.cells (ansV e a b d) 37)) k s' fc x' ((w'.heap.size, ansV e a b d) :: l) ∧ (∀ j, d.ownBlock = some j → s'.tag j = 0 ∧ ¬ x'.bs j) ∧ FarT s.tag w.heap.size s'.tag ∧ (∀ j, x'.bs j → x.bs j ∨ w.heap.size ≤ j) ∧ Upd (fun j => s.tag j ≠ 0 ∨ x.bs j ∨ w.heap.size ≤ j) w w' := by
  have ok := koutD_ok (k := k) (fc := fc) (w0 := w) (tag0 := s.tag) (bs0 := x.bs) h.kf.kt.tz h.kf.fs.lt T
  refine (askP_is ok (Below.refl _ _) h.kf.kt haw hA (hs ok)).mono ?_
  rintro e2 w' ⟨X, rfl, hX, hone, hu, ho⟩
  obtain ⟨s', x', e, a, b, d, dl, rfl, hT, hO, he, hd, hf, hx, hU⟩ := h.asked ho
  exact ⟨s', x', e, a, b, d, dl, rfl, hT, hO, he, hd, hf, hx, hU⟩
/-- what KOutF says, without bytes -/
theorem koutF_D {B0 : Nat} {tag0 : Nat → Nat} {bs0 : Nat → Prop} {T0 : KSt → FM → Nat → Int → Int → Int → Prop} (h : KOutF B0 k fc tag0 bs0 T0 w X w') : KOutD B0 k fc tag0 bs0 (fun s x e a b l => l = [] ∧ ∃ g, T0 s x g e a b) w X w' := by
  obtain ⟨s, x, g, e, a, b, hk, hf, hx, hg, hgl, rfl, hT, hU⟩ := h
  exact ⟨s, x, e, a, b, _, [], hk, hf, hx, rfl, OB.nil _ _, fun j e => (by cases e), ⟨rfl, g, hT⟩, hU⟩
theorem specF_D {B0 : Nat} {tag0 : Nat → Nat} {bs0 : Nat → Prop} {T0 : KSt → FM → Nat → Int → Int → Int → Prop} {f : Nat} {args : Array Value} (h : Spec w (KOutF B0 k fc tag0 bs0 T0) f args) : Spec w (KOutD B0 k fc tag0 bs0 (fun s x e a b l => l = [] ∧ ∃ g, T0 s x g e a b)) f args := fun w1 h1 => (h w1 h1).mono (by
  rintro e w' ⟨X, rfl, hX, hone, hu, ho⟩
  exact ⟨X, rfl, hX, hone, hu, koutF_D ho⟩)
end
end Go.Proofs.YtcdjkheelbikjaaGreatDoor
