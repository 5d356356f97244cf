/- The walks of the kernel's calls CPid and CSleep, and of Ask at who sleeps. The walk of kernel.Ask at who sleeps. An instruction as a word of 32 bits, and back: in plain numbers. No program here. What an operation is called, and which fields it has (printed by wip/tools/gen_code.py). No program here. The walk of code.row (printed by wip/tools/gen_code.py). An instruction's word, its errors: in plain numbers. No program here. The walk of code.Encode. The walk of code.Decode. -/
import Derived.Test.YtafflkemnniegaaGreatDoorSlG
import Derived.Test.YtafflkemnniegaaGreatDoorKerS
import Derived.Test.YtafflkemnniegaaGreatDoorProcWalk
import Derived.Test.YtafflkemnniegaaGreatDoorProg
import Derived.Test.YtafflkemnniegaaGreatDoorSpaceMap
import Derived.WalkSmall
import Derived.Deep.RegionHeld3
import Derived.BigQuiet
namespace Go.Proofs.YtafflkemnniegaaGreatDoor
open Go.RowKit
set_option linter.unusedVariables false
set_option linter.unusedSimpArgs false
theorem bd_pid (w : World) (a b : Int) : (bdR 35 #[(1, .int .i64 a), (2, .int .i64 b)]).run Tryz.prog w = .ok (.agg (ansV 0 a b (.slice none 0 0))) w := by kernel_rfl
section
variable {w0 w : World} {k : KC} {s : KSt} {p : Nat} {A : Array Value}
attribute [local go_sem ↓] ld_ans st_ans ld_call bd_ans
set_option maxRecDepth 100000 in
set_option maxHeartbeats 1000000 in
theorem proc_pid (h : KT w0 k s) (q1 : 1 ≤ p) (q16 : p ≤ 16) (hl : (s.t p).st ≠ 0) (hA : A.size = 7) (ha : A[0]? = some (.int .i64 30)) :
    Spec w0 (KOut w0.heap.size k s.tag (fun s' e a b => e = 0 ∧ a = p ∧ b = (s.t p).par ∧ s' = s)) 51 #[.pointer (some ⟨k.K, 0, none⟩), .int .i64 p, .agg A] := by
  intro w h0
  have ok := kout_ok (k := k) (w0 := w0) (tag0 := s.tag) h.tz (fun s' e a b => e = 0 ∧ a = p ∧ b = (s.t p).par ∧ s' = s)
  have hb1 := Go.Joins.below_alloc1 w (.cells A 38)
  have hal : Below w.heap.size w ((w.alloc (.cells A 38)).alloc (.cells ansZ 35)) := hb1.trans ((Go.Joins.below_alloc1 _ _).mono hb1.size)
  have hr1 := (row_new w 38 A).alloc (.cells ansZ 35)
  have hr2 := row_new (w.alloc (.cells A 38)) 35 ansZ
  rw [size_alloc1] at hr2
  have d0 : ((w.alloc (.cells A 38)).alloc (.cells ansZ 35)).cell? ⟨w.heap.size, 0, none⟩ = some (.int .i64 30) := by rw [hr1.cell, ha]
  have hk := (h.keep h0).keep hal
  have d7 : ((w.alloc (.cells A 38)).alloc (.cells ansZ 35)).cell? ⟨k.K, 7, none⟩ = some (.pointer (some ⟨k.Pr, 0, none⟩)) := by rw [hk.kr.cell (by decide), hk.c7]
  have HPA := Lib.hid (ProcLaw.parent_is (k := p) hk.pr q1 q16 hl)
  have HR : Hid (Row ((w.alloc (.cells A 38)).alloc (.cells #[.int .i64 0, .int .i64 0, .int .i64 0, .slice none 0 0, .slice none 0 0, .int .i64 0, .int .i64 0, .int .i64 0, .int .i64 0, .int .i64 0, .int .i64 0] 35)) (w.heap.size + 1) 35 ansZ) := Lib.hid hr2
  have HB := Lib.hid hal
  have HKT := Lib.hid hk
  have HOK := Lib.hid ok
  have H0 := Lib.hid h0
  have HLT := Lib.hid hr2.lt
  have i17 : (p : Int) < 17 := by omega
  clear hal hr1 hr2 hA ok h0 ha hb1 hk h q1 q16 hl
  have hz : ansZ = #[.int .i64 0, .int .i64 0, .int .i64 0, .slice none 0 0, .slice none 0 0, .int .i64 0, .int .i64 0, .int .i64 0, .int .i64 0, .int .i64 0, .int .i64 0] := rfl
  rw [hz] at d0 d7 HB HPA HLT HKT
  have hbd := fun w => bd_pid w p (s.t p).par
  go_enter Tryz.func51, Tryz.ntmps51
  go_upto_region 1 with fail
  generalize (w.alloc (.cells A 38)).alloc (.cells #[.int .i64 0, .int .i64 0, .int .i64 0, .slice none 0 0, .slice none 0 0, .int .i64 0, .int .i64 0, .int .i64 0, .int .i64 0, .int .i64 0, .int .i64 0] 35) = w1 at *
  obtain ⟨pp, hpp⟩ : ∃ pp : Int, pp = (s.t p).par := ⟨_, rfl⟩
  rw [← hpp] at HPA hbd
  have HPP := Lib.hid hpp
  clear hpp
  have HU0 : Hid (Upd (fun j => j < w0.heap.size) w1 w1) := Lib.hid (Upd.refl _ _)
  have HO0 : Hid (KOut w0.heap.size k s.tag (fun s' e a b => e = 0 ∧ a = p ∧ b = (s.t p).par ∧ s' = s) w1 (ansV 0 p pp (.slice none 0 0)) w1) := Lib.hid ⟨s, 0, p, pp, HKT.out, fun j e => .inl e, rfl, ⟨rfl, rfl, HPP.out, rfl⟩, Upd.refl _ _⟩
  have hX := (ansN3 0 p pp).1
  have hone := (ansN3 0 p pp).2
  generalize ansV 0 p pp (.slice none 0 0) = X at *
  have hst := ans_st HR.out hX hone
  have HLD := Lib.hid (ans_ldV HR.out hX)
  have HP := Lib.hid (HOK.out.put (C := X) H0.out HB.out HU0.out HO0.out (Nat.le_succ _) HLT.out)
  have HX := Lib.hid (And.intro hX hone)
  clear hX hone HO0 HU0 HKT
  generalize hw3 : w1.setRow (w.heap.size + 1) X = w3 at *
  go_wp2_with (go_at_call 136; refine HPA.out.mono ?_; rintro e2 w2 ⟨rfl, rfl⟩)
  exact bodyPost_ret (v := .agg X) (by rw [results_cell1 rfl]; simp [asAddr, Result.andThen, HLD.out]) rfl ⟨X, rfl, HX.out.1, HX.out.2, HP.out.1, HP.out.2⟩
end
end Go.Proofs.YtafflkemnniegaaGreatDoor
namespace Go.Proofs.YtafflkemnniegaaGreatDoor
open Go.RowKit
set_option linter.unusedVariables false
set_option linter.unusedSimpArgs false
section
variable {w : World} {k : KC} {s : KSt} {p : Nat} {A : Array Value}
attribute [local go_sem ↓] ld_ans st_ans ld_call
set_option maxRecDepth 100000 in
set_option maxHeartbeats 1000000 in
theorem asksl_is (hk : KT w k s) (p1 : 1 ≤ p) (p16 : p ≤ 16) (hlv : (s.t p).st = 1) (hsl : s.c (8 + p * 38 + 37) = .bool true) (hA : A.size = 7) :
    Calls Tryz.prog 6 #[.pointer (some ⟨k.K, 0, none⟩), .int .i64 p, .agg A] w fun e w' => e = .returned (.agg (ansV 8 0 0 (.slice none 0 0))) ∧ Below w.heap.size w w' := by
  have ha : ∀ (w : World) (o1 o2 o3 o4 : Obj), Below w.heap.size w ((((w.alloc o1).alloc o2).alloc o3).alloc o4) ∧ ((((w.alloc o1).alloc o2).alloc o3).alloc o4).heap[w.heap.size]? = some o1 ∧ ((((w.alloc o1).alloc o2).alloc o3).alloc o4).heap[w.heap.size + 1]? = some o2 ∧ ((((w.alloc o1).alloc o2).alloc o3).alloc o4).heap[w.heap.size + 1 + 1 + 1]? = some o4 := fun w o1 o2 o3 o4 => by
    have s1 := size_alloc1 w o1
    have s2 := size_alloc1 (w.alloc o1) o2
    have s3 := size_alloc1 ((w.alloc o1).alloc o2) o3
    refine ⟨(((Below.refl _ _).alloc (Nat.le_refl _) _).alloc (by omega) _).alloc (by omega) _ |>.alloc (by omega) _, ?_, ?_, ?_⟩
    · rw [heap_alloc_old _ _ (by omega), heap_alloc_old _ _ (by omega), heap_alloc_old _ _ (by omega)]; exact heap_alloc_new _ _
    · rw [heap_alloc_old _ _ (by omega), heap_alloc_old _ _ (by omega), ← s1]; exact heap_alloc_new _ _
    · rw [show w.heap.size + 1 + 1 + 1 = (((w.alloc o1).alloc o2).alloc o3).heap.size by omega]; exact heap_alloc_new _ _
  obtain ⟨a0, a1, a2, a4⟩ := ha w (.cells #[.pointer (some ⟨k.K, 0, none⟩)] 24) (.cells #[.int .i64 p] 3) (.cells A 38) (.cells #[.int .i64 0, .int .i64 0, .int .i64 0, .slice none 0 0, .slice none 0 0, .int .i64 0, .int .i64 0, .int .i64 0, .int .i64 0, .int .i64 0, .int .i64 0] 35)
  have HA0 := Lib.hid a0
  have hq1 := hk.keep a0
  have HQ1 := Lib.hid hq1
  have q83 : (((((w.alloc (.cells #[.pointer (some ⟨k.K, 0, none⟩)] 24)).alloc (.cells #[.int .i64 p] 3)).alloc (.cells A 38)).alloc (.cells #[.int .i64 0, .int .i64 0, .int .i64 0, .slice none 0 0, .slice none 0 0, .int .i64 0, .int .i64 0, .int .i64 0, .int .i64 0, .int .i64 0, .int .i64 0] 35))).cell? ⟨k.K, 8 + p * 38 + 37, none⟩ = some (.bool true) := by rw [hq1.kr.cell (by omega), hsl]
  have HR4 := Lib.hid a4
  have p0 := cell_of_row _ w.heap.size 0 _ _ (0, 0) a1
  have pp := cell_of_row _ (w.heap.size + 1) 0 _ _ (0, 0) a2
  rw [show (#[Value.pointer (some ⟨k.K, 0, none⟩)] : Array Value)[0]? = some (.pointer (some ⟨k.K, 0, none⟩)) from rfl] at p0
  rw [show (#[Value.int .i64 (p : Int)] : Array Value)[0]? = some (.int .i64 p) from rfl] at pp
  have HAW := Lib.hid (And.intro p1 (And.intro p16 hlv))
  have i17 : (p : Int) < 17 := by omega
  clear ha a0 a1 a2 a4 hk hq1 hA p1 p16 hlv hsl
  go_enter Tryz.func6, Tryz.ntmps6
  go_upto_region 1 with fail
  generalize (((((w.alloc (.cells #[.pointer (some ⟨k.K, 0, none⟩)] 24)).alloc (.cells #[.int .i64 p] 3)).alloc (.cells A 38)).alloc (.cells #[.int .i64 0, .int .i64 0, .int .i64 0, .slice none 0 0, .slice none 0 0, .int .i64 0, .int .i64 0, .int .i64 0, .int .i64 0, .int .i64 0, .int .i64 0] 35))) = w1 at *
  have HLV := Lib.hid (livingP_is HQ1.out HAW.out.1 HAW.out.2.1 HAW.out.2.2)
  go_upto_region 4 with (go_at_call 13; refine HLV.out.mono ?_; rintro e2 w2 ⟨rfl, rfl⟩)
  go_region
  have hb13 : Below w1.heap.size w1 w1.drew := (Below.refl _ _).drew
  have hr4 : Row w1.drew (w.heap.size + 1 + 1 + 1) 35 ansZ := Row.keep (c := ansZ) HR4.out hb13
  have HR := Lib.hid hr4
  have HB := Lib.hid (HA0.out.trans (hb13.mono HA0.out.size))
  clear hb13 hr4 p0 pp q83 HLV HR4 HQ1 HA0
  generalize w1.drew = w3 at *
  have HFL := Lib.hid (fail_is w3 8)
  go_wp2_with (go_at_call 14; refine HFL.out.mono ?_; rintro e4 w4 ⟨rfl, hb4⟩; have HRX := Lib.hid (HR.out.keep hb4); have HBX := Lib.hid (HB.out.trans (hb4.mono HB.out.size)); have hst := ans_st HRX.out (ansN 8).1 (ansN 8).2; have HLD := Lib.hid (ans_ldV HRX.out (ansN 8).1); clear hb4)
  exact bodyPost_ret (v := .agg (ansV 8 0 0 (.slice none 0 0))) (by rw [results_cell1 rfl]; simp [asAddr, Result.andThen, HLD.out]) rfl ⟨rfl, HBX.out.trans ((Upd.setRow (S := fun j => j = w.heap.size + 1 + 1 + 1) w4 _ rfl).toBelow HBX.out.size (fun j hj e => by omega))⟩
end
end Go.Proofs.YtafflkemnniegaaGreatDoor
namespace Go.Proofs.YtafflkemnniegaaGreatDoor.CodeLaw

def word (o a b c : Nat) : Nat := ((o <<< 24 ||| a <<< 20) ||| b <<< 16) ||| c
theorem or_add (x y i : Nat) (hy : y < 2 ^ i) (hx : 2 ^ i ∣ x) : x ||| y = x + y := by
  obtain ⟨k, rfl⟩ := hx
  rw [Nat.mul_comm, ← Nat.shiftLeft_eq, ← Nat.shiftLeft_add_eq_or_of_lt hy]
theorem word_sum (o a b c : Nat) (ha : a < 16) (hb : b < 16) (hc : c < 65536) : word o a b c = o * 16777216 + a * 1048576 + b * 65536 + c := by
  unfold word
  simp only [Nat.shiftLeft_eq]
  rw [or_add (o * 2 ^ 24) (a * 2 ^ 20) 24 (by omega) ⟨o, by omega⟩]
  rw [or_add (o * 2 ^ 24 + a * 2 ^ 20) (b * 2 ^ 16) 20 (by omega) ⟨o * 16 + a, by omega⟩]
  rw [or_add (o * 2 ^ 24 + a * 2 ^ 20 + b * 2 ^ 16) c 16 (by omega) ⟨o * 256 + a * 16 + b, by omega⟩]
theorem and15 (n : Nat) : n &&& 15 = n % 16 := Nat.and_two_pow_sub_one_eq_mod n 4
end Go.Proofs.YtafflkemnniegaaGreatDoor.CodeLaw
namespace Go.Proofs.YtafflkemnniegaaGreatDoor.CodeLaw

def rowS (op : Int) : ByteArray × Int :=
  if op = 1 then (⟨#[104, 97, 108, 116]⟩, 0) else
  if op = 2 then (⟨#[115, 101, 116]⟩, 5) else
  if op = 3 then (⟨#[104, 105, 103, 104]⟩, 5) else
  if op = 4 then (⟨#[109, 111, 118, 101]⟩, 3) else
  if op = 5 then (⟨#[97, 100, 100]⟩, 3) else
  if op = 6 then (⟨#[115, 117, 98]⟩, 3) else
  if op = 7 then (⟨#[109, 117, 108]⟩, 3) else
  if op = 8 then (⟨#[100, 105, 118]⟩, 3) else
  if op = 9 then (⟨#[97, 110, 100]⟩, 3) else
  if op = 10 then (⟨#[111, 114]⟩, 3) else
  if op = 11 then (⟨#[120, 111, 114]⟩, 3) else
  if op = 12 then (⟨#[108, 101, 102, 116]⟩, 3) else
  if op = 13 then (⟨#[114, 105, 103, 104, 116]⟩, 3) else
  if op = 14 then (⟨#[112, 108, 117, 115]⟩, 7) else
  if op = 15 then (⟨#[108, 111, 97, 100]⟩, 7) else
  if op = 16 then (⟨#[108, 111, 97, 100, 98]⟩, 7) else
  if op = 17 then (⟨#[115, 116, 111, 114, 101]⟩, 7) else
  if op = 18 then (⟨#[115, 116, 111, 114, 101, 98]⟩, 7) else
  if op = 19 then (⟨#[106, 117, 109, 112]⟩, 4) else
  if op = 20 then (⟨#[122, 101, 114, 111]⟩, 5) else
  if op = 21 then (⟨#[108, 101, 115, 115]⟩, 7) else
  if op = 22 then (⟨#[99, 97, 108, 108]⟩, 5) else
  if op = 23 then (⟨#[98, 97, 99, 107]⟩, 1) else
  if op = 24 then (⟨#[115, 121, 115]⟩, 0) else
  if op = 25 then (⟨#[115, 119, 97, 112]⟩, 7) else
  if op = 26 then (⟨#[104, 111, 109, 101]⟩, 1) else
  (⟨#[]⟩, 0)
/-- the fields alone -/
def fldS (op : Int) : Int := (rowS op).2
theorem known_cases {op : Int} (h : 1 ≤ op ∧ op ≤ 26) : op = 1 ∨ op = 2 ∨ op = 3 ∨ op = 4 ∨ op = 5 ∨ op = 6 ∨ op = 7 ∨ op = 8 ∨ op = 9 ∨ op = 10 ∨ op = 11 ∨ op = 12 ∨ op = 13 ∨ op = 14 ∨ op = 15 ∨ op = 16 ∨ op = 17 ∨ op = 18 ∨ op = 19 ∨ op = 20 ∨ op = 21 ∨ op = 22 ∨ op = 23 ∨ op = 24 ∨ op = 25 ∨ op = 26 := by omega
theorem rowS_none {op : Int} (h : ¬ (1 ≤ op ∧ op ≤ 26)) : rowS op = (⟨#[]⟩, 0) := by
  unfold rowS
  rw [if_neg (by omega)]
  rw [if_neg (by omega)]
  rw [if_neg (by omega)]
  rw [if_neg (by omega)]
  rw [if_neg (by omega)]
  rw [if_neg (by omega)]
  rw [if_neg (by omega)]
  rw [if_neg (by omega)]
  rw [if_neg (by omega)]
  rw [if_neg (by omega)]
  rw [if_neg (by omega)]
  rw [if_neg (by omega)]
  rw [if_neg (by omega)]
  rw [if_neg (by omega)]
  rw [if_neg (by omega)]
  rw [if_neg (by omega)]
  rw [if_neg (by omega)]
  rw [if_neg (by omega)]
  rw [if_neg (by omega)]
  rw [if_neg (by omega)]
  rw [if_neg (by omega)]
  rw [if_neg (by omega)]
  rw [if_neg (by omega)]
  rw [if_neg (by omega)]
  rw [if_neg (by omega)]
  rw [if_neg (by omega)]
end Go.Proofs.YtafflkemnniegaaGreatDoor.CodeLaw
namespace Go.Proofs.YtafflkemnniegaaGreatDoor.CodeLaw
open Go.RowKit
set_option linter.unusedVariables false

set_option maxHeartbeats 4000000 in
theorem row_is (op : Int) (w : World) : Calls Tryz.prog 182 #[.int .i64 op] w fun e w' => e = .returned (.tuple #[.string (rowS op).1, .int .i64 (rowS op).2]) ∧ w = w' := by
  by_cases h : 1 ≤ op ∧ op ≤ 26
  · rcases known_cases h with rfl | rfl | rfl | rfl | rfl | rfl | rfl | rfl | rfl | rfl | rfl | rfl | rfl | rfl | rfl | rfl | rfl | rfl | rfl | rfl | rfl | rfl | rfl | rfl | rfl | rfl
    all_goals
      clear h
      go_enter Tryz.func182, Tryz.ntmps182
      go_wp2
      go_ret2
      exact ⟨rfl, rfl⟩
  · have hr := rowS_none h
    rw [hr]
    have b1 : (op == 1) = false := by simp; omega
    have b2 : (op == 2) = false := by simp; omega
    have b3 : (op == 3) = false := by simp; omega
    have b4 : (op == 4) = false := by simp; omega
    have b5 : (op == 5) = false := by simp; omega
    have b6 : (op == 6) = false := by simp; omega
    have b7 : (op == 7) = false := by simp; omega
    have b8 : (op == 8) = false := by simp; omega
    have b9 : (op == 9) = false := by simp; omega
    have b10 : (op == 10) = false := by simp; omega
    have b11 : (op == 11) = false := by simp; omega
    have b12 : (op == 12) = false := by simp; omega
    have b13 : (op == 13) = false := by simp; omega
    have b14 : (op == 14) = false := by simp; omega
    have b15 : (op == 15) = false := by simp; omega
    have b16 : (op == 16) = false := by simp; omega
    have b17 : (op == 17) = false := by simp; omega
    have b18 : (op == 18) = false := by simp; omega
    have b19 : (op == 19) = false := by simp; omega
    have b20 : (op == 20) = false := by simp; omega
    have b21 : (op == 21) = false := by simp; omega
    have b22 : (op == 22) = false := by simp; omega
    have b23 : (op == 23) = false := by simp; omega
    have b24 : (op == 24) = false := by simp; omega
    have b25 : (op == 25) = false := by simp; omega
    have b26 : (op == 26) = false := by simp; omega
    clear h hr
    go_enter Tryz.func182, Tryz.ntmps182
    go_wp2
    go_ret2
    exact ⟨rfl, rfl⟩
end Go.Proofs.YtafflkemnniegaaGreatDoor.CodeLaw
namespace Go.Proofs.YtafflkemnniegaaGreatDoor.CodeLaw

def okF (f a b c : Int) : Bool := !((bits .and .i64 f 1 == 0 && a != 0) || (bits .and .i64 f 2 == 0 && b != 0) || (bits .and .i64 f 4 == 0 && c != 0))
def inF (a b c : Int) : Prop := 0 ≤ a ∧ a < 8 ∧ 0 ≤ b ∧ b < 8 ∧ -32768 ≤ c ∧ c ≤ 32767
instance (a b c : Int) : Decidable (inF a b c) := by unfold inF; infer_instance
def wordZ (op a b c : Int) : Int := bits .or .u32 (bits .or .u32 (bits .or .u32 (op * 16777216) (a * 1048576)) (b * 65536)) (IntKind.u16.wrap c % 4294967296)
def encR (op a b c : Int) : Int × Int := if 1 ≤ op ∧ op ≤ 26 then (if inF a b c then (if okF (fldS op) a b c = true then (wordZ op a b c, 0) else (0, 3)) else (0, 1)) else (0, 4)
theorem encR_none {op a b c : Int} (h : ¬ (1 ≤ op ∧ op ≤ 26)) : encR op a b c = (0, 4) := by rw [encR, if_neg h]
theorem encR_out {op a b c : Int} (h : 1 ≤ op ∧ op ≤ 26) (hi : ¬ inF a b c) : encR op a b c = (0, 1) := by rw [encR, if_pos h, if_neg hi]
theorem encR_form {op a b c : Int} (h : 1 ≤ op ∧ op ≤ 26) (hi : inF a b c) (hf : ¬ okF (fldS op) a b c = true) : encR op a b c = (0, 3) := by rw [encR, if_pos h, if_pos hi, if_neg hf]
theorem encR_ok {op a b c : Int} (h : 1 ≤ op ∧ op ≤ 26) (hi : inF a b c) (hf : okF (fldS op) a b c = true) : encR op a b c = (wordZ op a b c, 0) := by rw [encR, if_pos h, if_pos hi, if_pos hf]
theorem encR_zero {op a b c : Int} (h : (encR op a b c).2 = 0) : (1 ≤ op ∧ op ≤ 26) ∧ inF a b c ∧ okF (fldS op) a b c = true := by
  unfold encR at h
  by_cases h1 : 1 ≤ op ∧ op ≤ 26
  · rw [if_pos h1] at h
    by_cases h2 : inF a b c
    · rw [if_pos h2] at h
      by_cases h3 : okF (fldS op) a b c = true
      · exact ⟨h1, h2, h3⟩
      · rw [if_neg h3] at h; cases h
    · rw [if_neg h2] at h; cases h
  · rw [if_neg h1] at h; cases h
theorem name_some {op : Int} (h : 1 ≤ op ∧ op ≤ 26) : (rowS op).1.toList.isEmpty = false := by
  rcases known_cases h with rfl | rfl | rfl | rfl | rfl | rfl | rfl | rfl | rfl | rfl | rfl | rfl | rfl | rfl | rfl | rfl | rfl | rfl | rfl | rfl | rfl | rfl | rfl | rfl | rfl | rfl <;> decide +kernel
theorem u16_wrap (c : Int) : IntKind.u16.wrap c = c % 65536 := by simp [IntKind.wrap, IntKind.bits, IntKind.signed]
theorem wraps_u32 (n : Int) (h₀ : 0 ≤ n) (h₁ : n < 2 ^ 32) : IntKind.u32.wrap n = n := by rw [IntKind.wrap_u32]; omega
theorem u32_or (a b : Nat) (ha : a < 2 ^ 32) (hb : b < 2 ^ 32) : bits .or .u32 (a : Int) (b : Int) = ((a ||| b : Nat) : Int) :=
  (bits_nat .u32 32 (by decide) wraps_u32 a b ha hb).2
theorem u32_and (a b : Nat) (ha : a < 2 ^ 32) (hb : b < 2 ^ 32) : bits .and .u32 (a : Int) (b : Int) = ((a &&& b : Nat) : Int) :=
  (bits_nat .u32 32 (by decide) wraps_u32 a b ha hb).1
theorem wordZ_sum {op a b c : Int} (h : 1 ≤ op ∧ op ≤ 26) (hi : inF a b c) : wordZ op a b c = op * 16777216 + a * 1048576 + b * 65536 + c % 65536 := by
  obtain ⟨a0, a1, b0, b1, c0, c1⟩ := hi
  obtain ⟨o, rfl⟩ : ∃ n : Nat, op = n := ⟨op.toNat, by omega⟩
  obtain ⟨x, rfl⟩ : ∃ n : Nat, a = n := ⟨a.toNat, by omega⟩
  obtain ⟨y, rfl⟩ : ∃ n : Nat, b = n := ⟨b.toNat, by omega⟩
  obtain ⟨z, hz⟩ : ∃ n : Nat, c % 65536 = n := ⟨(c % 65536).toNat, by omega⟩
  unfold wordZ
  rw [u16_wrap, hz]
  have e1 : (o : Int) * 16777216 = ((o * 16777216 : Nat) : Int) := by omega
  have e2 : (x : Int) * 1048576 = ((x * 1048576 : Nat) : Int) := by omega
  have e3 : (y : Int) * 65536 = ((y * 65536 : Nat) : Int) := by omega
  have e4 : (z : Int) % 4294967296 = ((z : Nat) : Int) := by omega
  have s1 : o * 16777216 ||| x * 1048576 = o * 16777216 + x * 1048576 := or_add _ _ 24 (by omega) ⟨o, by omega⟩
  have s2 : (o * 16777216 + x * 1048576) ||| y * 65536 = o * 16777216 + x * 1048576 + y * 65536 := or_add _ _ 20 (by omega) ⟨o * 16 + x, by omega⟩
  have s3 : (o * 16777216 + x * 1048576 + y * 65536) ||| z = o * 16777216 + x * 1048576 + y * 65536 + z := or_add _ _ 16 (by omega) ⟨o * 256 + x * 16 + y, by omega⟩
  rw [e1, e2, e3, e4, u32_or _ _ (by omega) (by omega), s1, u32_or _ _ (by omega) (by omega), s2, u32_or _ _ (by omega) (by omega), s3]
  omega

/-- the fields of a word -/
def fA (x : Int) : Int := bits .and .u32 (x / 1048576) 15
def fB (x : Int) : Int := bits .and .u32 (x / 65536) 15
theorem fA_is {x : Int} (h0 : 0 ≤ x) (h1 : x < 4294967296) : fA x = x / 1048576 % 16 := by
  obtain ⟨n, hn⟩ : ∃ n : Nat, x / 1048576 = n := ⟨(x / 1048576).toNat, by omega⟩
  rw [fA, hn, show (15 : Int) = ((15 : Nat) : Int) from rfl, u32_and _ _ (by omega) (by decide), and15]
  omega
theorem fB_is {x : Int} (h0 : 0 ≤ x) (h1 : x < 4294967296) : fB x = x / 65536 % 16 := by
  obtain ⟨n, hn⟩ : ∃ n : Nat, x / 65536 = n := ⟨(x / 65536).toNat, by omega⟩
  rw [fB, hn, show (15 : Int) = ((15 : Nat) : Int) from rfl, u32_and _ _ (by omega) (by decide), and15]
  omega
def fC (x : Int) : Int := (x + 32768) % 65536 - 32768
structure Ins where
  op : Int
  a : Int
  b : Int
  c : Int
  deriving DecidableEq
def fields (x : Int) : Ins := ⟨x / 16777216, x / 1048576 % 16, x / 65536 % 16, fC x⟩
def encI (i : Ins) : Int × Int := encR i.op i.a i.b i.c
def decOk (x : Int) : Bool := (encI (fields x)).2 == 0 && (encI (fields x)).1 == x
def decR (x : Int) : Ins × Int := if decOk x = true then (fields x, 0) else (⟨0, 0, 0, 0⟩, 3)
theorem back {i : Ins} (h : (encI i).2 = 0) : (0 ≤ (encI i).1 ∧ (encI i).1 < 4294967296) ∧ decR (encI i).1 = (i, 0) := by
  obtain ⟨h1, h2, h3⟩ := encR_zero h
  have he : encI i = (wordZ i.op i.a i.b i.c, 0) := encR_ok h1 h2 h3
  have hs := wordZ_sum h1 h2
  have h2' := h2
  obtain ⟨a0, a1, b0, b1, c0, c1⟩ := h2
  have hf : fields (encI i).1 = i := by
    obtain ⟨op, a, b, c⟩ := i
    rw [he]
    simp only at *
    rw [hs, fields, fC]
    congr 1 <;> omega
  refine ⟨by rw [he, hs]; omega, ?_⟩
  have hd : decOk (encI i).1 = true := by
    rw [decOk, hf, h]; simp
  rw [decR, if_pos hd, hf]
theorem forth {x : Int} (h : (decR x).2 = 0) : encI (decR x).1 = (x, 0) := by
  unfold decR at h ⊢
  by_cases hd : decOk x = true
  · rw [if_pos hd]
    unfold decOk at hd
    simp at hd
    exact Prod.ext hd.2 hd.1
  · rw [if_neg hd] at h; cases h
theorem decR_bad {x : Int} (h : (decR x).2 ≠ 0) : decR x = (⟨0, 0, 0, 0⟩, 3) := by
  unfold decR at h ⊢
  by_cases hd : decOk x = true
  · rw [if_pos hd] at h; exact absurd rfl h
  · rw [if_neg hd]
end Go.Proofs.YtafflkemnniegaaGreatDoor.CodeLaw
namespace Go.Proofs.YtafflkemnniegaaGreatDoor.CodeLaw
open Go.RowKit
set_option linter.unusedVariables false

set_option maxRecDepth 100000 in
set_option maxHeartbeats 8000000 in
theorem enc_is (op a b c : Int) (w : World) :
    Calls Tryz.prog 99 #[.agg #[.int .i64 op, .int .i64 a, .int .i64 b, .int .i64 c]] w fun e w' => e = .returned (.tuple #[.int .u32 (encR op a b c).1, .int .i64 (encR op a b c).2]) ∧ Below w.heap.size w w' := by
  have hr := row_is op (w.alloc (.cells #[.int .i64 op, .int .i64 a, .int .i64 b, .int .i64 c] 119))
  have HB := Lib.hid (show Below w.heap.size w (w.alloc (.cells #[.int .i64 op, .int .i64 a, .int .i64 b, .int .i64 c] 119)) from Go.Joins.below_alloc1 _ _)
  by_cases hk : 1 ≤ op ∧ op ≤ 26
  · have hq := name_some hk
    have HK := Lib.hid hk
    obtain ⟨k1, k2⟩ := hk
    obtain ⟨s, hs⟩ : ∃ s, s = (rowS op).1 := ⟨_, rfl⟩
    obtain ⟨f, hf⟩ : ∃ f, f = (rowS op).2 := ⟨_, rfl⟩
    rw [← hs] at hq hr
    rw [← hf] at hr
    have HR := Lib.hid hr
    have HF := Lib.hid (show f = fldS op from hf)
    clear hr hs hf
    by_cases hi : inF a b c
    · have HI := Lib.hid hi
      obtain ⟨a0, a1, b0, b1, c0, c1⟩ := hi
      have hcase : ((Hid (okF f a b c = false) ∧
          ((((bits .and .i64 f 1 == 0) = true ∧ (a != 0) = true)) ∨
           (((bits .and .i64 f 1 == 0) = false ∨ ((bits .and .i64 f 1 == 0) = true ∧ (a != 0) = false)) ∧ (bits .and .i64 f 2 == 0) = true ∧ (b != 0) = true) ∨
           (((bits .and .i64 f 1 == 0) = false ∨ ((bits .and .i64 f 1 == 0) = true ∧ (a != 0) = false)) ∧ ((bits .and .i64 f 2 == 0) = false ∨ ((bits .and .i64 f 2 == 0) = true ∧ (b != 0) = false)) ∧ (bits .and .i64 f 4 == 0) = true ∧ (c != 0) = true))) ∨
          (Hid (okF f a b c = true) ∧ ((bits .and .i64 f 1 == 0) = false ∨ ((bits .and .i64 f 1 == 0) = true ∧ (a != 0) = false)) ∧ ((bits .and .i64 f 2 == 0) = false ∨ ((bits .and .i64 f 2 == 0) = true ∧ (b != 0) = false)) ∧ ((bits .and .i64 f 4 == 0) = false ∨ ((bits .and .i64 f 4 == 0) = true ∧ (c != 0) = false)))) := by
        have hd : ∀ z, okF f a b c = z → Hid (okF f a b c = z) := fun z h => Lib.hid h
        have ho : okF f a b c = !((bits .and .i64 f 1 == 0 && a != 0) || (bits .and .i64 f 2 == 0 && b != 0) || (bits .and .i64 f 4 == 0 && c != 0)) := rfl
        generalize (bits .and .i64 f 1 == 0) = x1 at *
        generalize (bits .and .i64 f 2 == 0) = x2 at *
        generalize (bits .and .i64 f 4 == 0) = x3 at *
        generalize (a != 0) = y1 at *
        generalize (b != 0) = y2 at *
        generalize (c != 0) = y3 at *
        generalize okF f a b c = o at *
        clear HR HF HI HK HB
        cases x1 <;> cases x2 <;> cases x3 <;> cases y1 <;> cases y2 <;> cases y3 <;> simp at ho <;> subst ho <;> simp <;> first | exact Lib.hid trivial | exact hd _ rfl
      rcases hcase with ⟨HO, hcase⟩ | ⟨HO, g1, g2, g3⟩
      · have HE := Lib.hid (encR_form HK.out HI.out (by rw [← HF.out, HO.out]; simp))
        rcases hcase with ⟨t1, t2⟩ | ⟨g1, t1, t2⟩ | ⟨g1, g2, t1, t2⟩
        · go_enter Tryz.func99, Tryz.ntmps99
          go_wp2_with fail
          refine HR.out.mono ?_
          rintro e w1 ⟨rfl, rfl⟩
          go_wp2
          go_ret2
          exact ⟨by rw [HE.out]; rfl, HB.out⟩
        · rcases g1 with g1 | ⟨g1, g1'⟩
          all_goals
            go_enter Tryz.func99, Tryz.ntmps99
            go_wp2_with fail
            refine HR.out.mono ?_
            rintro e w1 ⟨rfl, rfl⟩
            go_wp2
            go_ret2
            exact ⟨by rw [HE.out]; rfl, HB.out⟩
        · rcases g1 with g1 | ⟨g1, g1'⟩ <;> rcases g2 with g2 | ⟨g2, g2'⟩
          all_goals
            go_enter Tryz.func99, Tryz.ntmps99
            go_wp2_with fail
            refine HR.out.mono ?_
            rintro e w1 ⟨rfl, rfl⟩
            go_wp2
            go_ret2
            exact ⟨by rw [HE.out]; rfl, HB.out⟩
      · have HE := Lib.hid (encR_ok HK.out HI.out (by rw [← HF.out]; exact HO.out))
        rcases g1 with g1 | ⟨g1, g1'⟩ <;> rcases g2 with g2 | ⟨g2, g2'⟩ <;> rcases g3 with g3 | ⟨g3, g3'⟩
        all_goals
          go_enter Tryz.func99, Tryz.ntmps99
          go_wp2_with fail
          refine HR.out.mono ?_
          rintro e w1 ⟨rfl, rfl⟩
          go_wp2
          go_ret2
          exact ⟨by rw [HE.out]; rfl, HB.out⟩
    · have HE := Lib.hid (encR_out HK.out hi)
      have hcase : a < 0 ∨ (0 ≤ a ∧ 8 ≤ a) ∨ ((0 ≤ a ∧ a < 8) ∧ b < 0) ∨ ((0 ≤ a ∧ a < 8) ∧ 0 ≤ b ∧ 8 ≤ b) ∨ ((0 ≤ a ∧ a < 8) ∧ (0 ≤ b ∧ b < 8) ∧ c < -32768) ∨ ((0 ≤ a ∧ a < 8) ∧ (0 ≤ b ∧ b < 8) ∧ -32768 ≤ c ∧ 32767 < c) := by unfold inF at hi; omega
      clear hi
      rcases hcase with hh | hh | hh | hh | hh | hh
      all_goals
        go_enter Tryz.func99, Tryz.ntmps99
        go_wp2_with fail
        refine HR.out.mono ?_
        rintro e w1 ⟨rfl, rfl⟩
        go_wp2
        go_ret2
        exact ⟨by rw [HE.out]; rfl, HB.out⟩
  · have HE := Lib.hid (encR_none (a := a) (b := b) (c := c) hk)
    rw [rowS_none hk] at hr
    have HR := Lib.hid hr
    clear hr hk
    go_enter Tryz.func99, Tryz.ntmps99
    go_wp2_with fail
    refine HR.out.mono ?_
    rintro e w1 ⟨rfl, rfl⟩
    go_wp2
    go_ret2
    exact ⟨by rw [HE.out]; rfl, HB.out⟩
end Go.Proofs.YtafflkemnniegaaGreatDoor.CodeLaw
namespace Go.Proofs.YtafflkemnniegaaGreatDoor.CodeLaw
open Go.RowKit
set_option linter.unusedVariables false

abbrev insV (i : Ins) : Value := .agg #[.int .i64 i.op, .int .i64 i.a, .int .i64 i.b, .int .i64 i.c]
theorem encI_is (i : Ins) (w : World) : Calls Tryz.prog 99 #[insV i] w fun e w' => e = .returned (.tuple #[.int .u32 (encI i).1, .int .i64 (encI i).2]) ∧ Below w.heap.size w w' := enc_is i.op i.a i.b i.c w
theorem wrap_small {n : Int} (h0 : -32768 ≤ n) (h1 : n < 4294967296) : wrap64 n = n := by
  unfold wrap64; omega
theorem i16_wrap (n : Int) : IntKind.i16.wrap n = (n + 32768) % 65536 - 32768 := by
  simp [IntKind.wrap, IntKind.bits, IntKind.signed]
  split <;> omega

set_option maxRecDepth 100000 in
set_option maxHeartbeats 4000000 in
theorem dec_is (x : Int) (w : World) (h0 : 0 ≤ x) (h1 : x < 4294967296) :
    Calls Tryz.prog 61 #[.int .u32 x] w fun e w' => e = .returned (.tuple #[insV (decR x).1, .int .i64 (decR x).2]) ∧ Below w.heap.size w w' := by
  obtain ⟨o, ho⟩ : ∃ o, x / 16777216 = o := ⟨_, rfl⟩
  obtain ⟨a, ha⟩ : ∃ o, x / 1048576 % 16 = o := ⟨_, rfl⟩
  obtain ⟨b, hb⟩ : ∃ o, x / 65536 % 16 = o := ⟨_, rfl⟩
  obtain ⟨c, hc⟩ : ∃ o, fC x = o := ⟨_, rfl⟩
  have hf : fields x = ⟨o, a, b, c⟩ := by rw [fields, ho, ha, hb, hc]
  have e1 : wrap64 (bits .and .u32 (x / 1048576) 15) = a := by
    rw [show bits .and .u32 (x / 1048576) 15 = a from (fA_is h0 h1).trans ha]; exact wrap_small (by omega) (by omega)
  have e2 : wrap64 (bits .and .u32 (x / 65536) 15) = b := by
    rw [show bits .and .u32 (x / 65536) 15 = b from (fB_is h0 h1).trans hb]; exact wrap_small (by omega) (by omega)
  have e3 : wrap64 (IntKind.i16.wrap x) = c := by
    rw [show IntKind.i16.wrap x = c from (i16_wrap x).trans hc]; unfold fC at hc; exact wrap_small (by omega) (by omega)
  have hA : Below w.heap.size w ((w.alloc (.cells #[.int .i64 0, .int .i64 0, .int .i64 0, .int .i64 0] 119)).alloc (.cells #[.int .i64 o, .int .i64 a, .int .i64 b, .int .i64 c] 119)) := Go.Joins.below_alloc2 _ _ _
  have hN : Has ((w.alloc (.cells #[.int .i64 0, .int .i64 0, .int .i64 0, .int .i64 0] 119)).alloc (.cells #[.int .i64 o, .int .i64 a, .int .i64 b, .int .i64 c] 119)) (w.heap.size + 1) [.int .i64 o, .int .i64 a, .int .i64 b, .int .i64 c] := by
    have := has_new (w.alloc (.cells #[.int .i64 0, .int .i64 0, .int .i64 0, .int .i64 0] 119)) [.int .i64 o, .int .i64 a, .int .i64 b, .int .i64 c] 119
    simpa using this
  have hM : Has ((w.alloc (.cells #[.int .i64 0, .int .i64 0, .int .i64 0, .int .i64 0] 119)).alloc (.cells #[.int .i64 o, .int .i64 a, .int .i64 b, .int .i64 c] 119)) w.heap.size [.int .i64 0, .int .i64 0, .int .i64 0, .int .i64 0] := (has_new w [.int .i64 0, .int .i64 0, .int .i64 0, .int .i64 0] 119).alloc _
  have hz : ∀ i, ((w.alloc (.cells #[.int .i64 0, .int .i64 0, .int .i64 0, .int .i64 0] 119)).alloc (.cells #[.int .i64 o, .int .i64 a, .int .i64 b, .int .i64 c] 119)).frozen? ⟨w.heap.size, i, none⟩ = false := fun i => by simp
  obtain ⟨y, hy⟩ : ∃ y, y = (encR o a b c).1 := ⟨_, rfl⟩
  obtain ⟨z, hz2⟩ : ∃ z, z = (encR o a b c).2 := ⟨_, rfl⟩
  have hcall := enc_is o a b c ((w.alloc (.cells #[.int .i64 0, .int .i64 0, .int .i64 0, .int .i64 0] 119)).alloc (.cells #[.int .i64 o, .int .i64 a, .int .i64 b, .int .i64 c] 119))
  rw [← hy, ← hz2] at hcall
  have hd : decR x = if z = 0 ∧ y = x then (⟨o, a, b, c⟩, 0) else (⟨0, 0, 0, 0⟩, 3) := by
    unfold decR decOk encI
    rw [hf]
    simp only
    rw [← hy, ← hz2]
    by_cases hh : z = 0 ∧ y = x
    · rw [if_pos hh, if_pos (by simp [hh])]
    · rw [if_neg hh, if_neg (by simpa using hh)]
  have HO := Lib.hid ho
  have H1 := Lib.hid e1
  have H2 := Lib.hid e2
  have H3 := Lib.hid e3
  have HC := Lib.hid hcall
  have HD := Lib.hid hd
  have HA := Lib.hid hA
  have HN := Lib.hid hN
  have HM := Lib.hid hM
  have HZ := Lib.hid hz
  clear ho ha hb hc hf e1 e2 e3 hcall hd hy hz2 hA hN hM hz
  have hcase : (z = 0 ∧ (y == x) = true ∧ Hid (y = x)) ∨ (z = 0 ∧ (y == x) = false ∧ Hid (y ≠ x)) ∨ ((z == 0) = false ∧ Hid (z ≠ 0)) := by
    by_cases hz : z = 0
    · by_cases hx : y = x
      · exact .inl ⟨hz, by simp [hx], hx⟩
      · exact .inr (.inl ⟨hz, by simp [hx], hx⟩)
    · exact .inr (.inr ⟨by simp [hz], hz⟩)
  go_enter Tryz.func61, Tryz.ntmps61
  go_wp2_with fail
  rw [HO.out, H1.out, H2.out, H3.out]
  refine HC.out.mono ?_
  rintro e w1 ⟨rfl, hb1⟩
  have hN1 := HN.out.keep hb1
  have hM1 := HM.out.keep hb1
  have hB1 := HA.out.trans (hb1.mono HA.out.size)
  have hz1 := fun i => (hb1.frozen (p := ⟨w.heap.size, i, none⟩) HM.out.1).trans (HZ.out i)
  have z0 := hz1 0
  have z1 := hz1 1
  have z2 := hz1 2
  have z3 := hz1 3
  have n0 := hN1.2 0 _ rfl
  have n1 := hN1.2 1 _ rfl
  have n2 := hN1.2 2 _ rfl
  have n3 := hN1.2 3 _ rfl
  have m0 := hM1.2 0 _ rfl
  have m1 := hM1.2 1 _ rfl
  have m2 := hM1.2 2 _ rfl
  have m3 := hM1.2 3 _ rfl
  have HB1 := Lib.hid hB1
  clear hN1 hM1 hz1 hb1 hB1
  rcases hcase with ⟨rfl, hyx, HX⟩ | ⟨rfl, hyx, HX⟩ | ⟨hz, HX⟩
  · have HE := Lib.hid (HD.out.trans (if_pos ⟨rfl, HX.out⟩))
    go_wp2
    refine bodyPost_ret (v := .tuple #[insV ⟨o, a, b, c⟩, .int .i64 0]) (by simp [results, Tryz.results61, go_sem, m0, m1, m2, m3]) rfl ⟨by rw [HE.out], ?_⟩
    repeat (first | refine Below.setCell ?_ (by simp <;> omega) _ | refine Below.drew ?_)
    exact HB1.out
  · have HE := Lib.hid (HD.out.trans (if_neg fun h => HX.out h.2))
    go_wp2
    refine bodyPost_ret (v := .tuple #[insV ⟨0, 0, 0, 0⟩, .int .i64 3]) (by simp [results, Tryz.results61, go_sem, m0, m1, m2, m3]) rfl ⟨by rw [HE.out], ?_⟩
    repeat (first | refine Below.setCell ?_ (by simp <;> omega) _ | refine Below.drew ?_)
    exact HB1.out
  · have HE := Lib.hid (HD.out.trans (if_neg fun h => HX.out h.1))
    go_wp2
    refine bodyPost_ret (v := .tuple #[insV ⟨0, 0, 0, 0⟩, .int .i64 3]) (by simp [results, Tryz.results61, go_sem, m0, m1, m2, m3]) rfl ⟨by rw [HE.out], ?_⟩
    repeat (first | refine Below.setCell ?_ (by simp <;> omega) _ | refine Below.drew ?_)
    exact HB1.out
end Go.Proofs.YtafflkemnniegaaGreatDoor.CodeLaw
