/- An instruction's word, its errors: in plain numbers. No program here. Arguments that are slices of arrays of ints, opened to cells. No program here. The walk of code.Encode. The walk of code.Decode. Slices of the call's own: what keeps them. No program here. What a call may turn: the blocks of a set, and none but them; new ones may come. No program here. Slices of bytes: what is known of them, and slices.Clone at bytes. -/
import Derived.Test.YtnbhohaphmilmaaGreatDoorCodeRow
import Derived.Deep.RegionHeld3
import Derived.BigQuiet
import Derived.OwnWalk
import Derived.Test.YtnbhohaphmilmaaGreatDoorProg
import Derived.WalkSpells
import Derived.Laws.CopyOwn
import Derived.Laws.CopyRow
namespace Go.Proofs.YtnbhohaphmilmaaGreatDoor.CodeLaw

def okF (f a b c : Int) : Bool := !((bits .and .i64 f 1 == 0 && a != 0) || (bits .and .i64 f 2 == 0 && b != 0) || (bits .and .i64 f 4 == 0 && c != 0))
def inF (a b c : Int) : Prop := 0 ≤ a ∧ a < 8 ∧ 0 ≤ b ∧ b < 8 ∧ -32768 ≤ c ∧ c ≤ 32767
instance (a b c : Int) : Decidable (inF a b c) := by unfold inF; infer_instance
def wordZ (op a b c : Int) : Int := bits .or .u32 (bits .or .u32 (bits .or .u32 (op * 16777216) (a * 1048576)) (b * 65536)) (IntKind.u16.wrap c % 4294967296)
def encR (op a b c : Int) : Int × Int := if 1 ≤ op ∧ op ≤ 26 then (if inF a b c then (if okF (fldS op) a b c = true then (wordZ op a b c, 0) else (0, 3)) else (0, 1)) else (0, 4)
theorem encR_none {op a b c : Int} (h : ¬ (1 ≤ op ∧ op ≤ 26)) : encR op a b c = (0, 4) := by rw [encR, if_neg h]
theorem encR_out {op a b c : Int} (h : 1 ≤ op ∧ op ≤ 26) (hi : ¬ inF a b c) : encR op a b c = (0, 1) := by rw [encR, if_pos h, if_neg hi]
theorem encR_form {op a b c : Int} (h : 1 ≤ op ∧ op ≤ 26) (hi : inF a b c) (hf : ¬ okF (fldS op) a b c = true) : encR op a b c = (0, 3) := by rw [encR, if_pos h, if_pos hi, if_neg hf]
theorem encR_ok {op a b c : Int} (h : 1 ≤ op ∧ op ≤ 26) (hi : inF a b c) (hf : okF (fldS op) a b c = true) : encR op a b c = (wordZ op a b c, 0) := by rw [encR, if_pos h, if_pos hi, if_pos hf]
theorem encR_zero {op a b c : Int} (h : (encR op a b c).2 = 0) : (1 ≤ op ∧ op ≤ 26) ∧ inF a b c ∧ okF (fldS op) a b c = true := by
  unfold encR at h
  by_cases h1 : 1 ≤ op ∧ op ≤ 26
  · rw [if_pos h1] at h
    by_cases h2 : inF a b c
    · rw [if_pos h2] at h
      by_cases h3 : okF (fldS op) a b c = true
      · exact ⟨h1, h2, h3⟩
      · rw [if_neg h3] at h; cases h
    · rw [if_neg h2] at h; cases h
  · rw [if_neg h1] at h; cases h
theorem name_some {op : Int} (h : 1 ≤ op ∧ op ≤ 26) : (rowS op).1.toList.isEmpty = false := by
  rcases known_cases h with rfl | rfl | rfl | rfl | rfl | rfl | rfl | rfl | rfl | rfl | rfl | rfl | rfl | rfl | rfl | rfl | rfl | rfl | rfl | rfl | rfl | rfl | rfl | rfl | rfl | rfl <;> decide +kernel
theorem u16_wrap (c : Int) : IntKind.u16.wrap c = c % 65536 := by simp [IntKind.wrap, IntKind.bits, IntKind.signed]
theorem wraps_u32 (n : Int) (h₀ : 0 ≤ n) (h₁ : n < 2 ^ 32) : IntKind.u32.wrap n = n := by rw [IntKind.wrap_u32]; omega
theorem u32_or (a b : Nat) (ha : a < 2 ^ 32) (hb : b < 2 ^ 32) : bits .or .u32 (a : Int) (b : Int) = ((a ||| b : Nat) : Int) :=
  (bits_nat .u32 32 (by decide) wraps_u32 a b ha hb).2
theorem u32_and (a b : Nat) (ha : a < 2 ^ 32) (hb : b < 2 ^ 32) : bits .and .u32 (a : Int) (b : Int) = ((a &&& b : Nat) : Int) :=
  (bits_nat .u32 32 (by decide) wraps_u32 a b ha hb).1
theorem wordZ_sum {op a b c : Int} (h : 1 ≤ op ∧ op ≤ 26) (hi : inF a b c) : wordZ op a b c = op * 16777216 + a * 1048576 + b * 65536 + c % 65536 := by
  obtain ⟨a0, a1, b0, b1, c0, c1⟩ := hi
  obtain ⟨o, rfl⟩ : ∃ n : Nat, op = n := ⟨op.toNat, by omega⟩
  obtain ⟨x, rfl⟩ : ∃ n : Nat, a = n := ⟨a.toNat, by omega⟩
  obtain ⟨y, rfl⟩ : ∃ n : Nat, b = n := ⟨b.toNat, by omega⟩
  obtain ⟨z, hz⟩ : ∃ n : Nat, c % 65536 = n := ⟨(c % 65536).toNat, by omega⟩
  unfold wordZ
  rw [u16_wrap, hz]
  have e1 : (o : Int) * 16777216 = ((o * 16777216 : Nat) : Int) := by omega
  have e2 : (x : Int) * 1048576 = ((x * 1048576 : Nat) : Int) := by omega
  have e3 : (y : Int) * 65536 = ((y * 65536 : Nat) : Int) := by omega
  have e4 : (z : Int) % 4294967296 = ((z : Nat) : Int) := by omega
  have s1 : o * 16777216 ||| x * 1048576 = o * 16777216 + x * 1048576 := or_add _ _ 24 (by omega) ⟨o, by omega⟩
  have s2 : (o * 16777216 + x * 1048576) ||| y * 65536 = o * 16777216 + x * 1048576 + y * 65536 := or_add _ _ 20 (by omega) ⟨o * 16 + x, by omega⟩
  have s3 : (o * 16777216 + x * 1048576 + y * 65536) ||| z = o * 16777216 + x * 1048576 + y * 65536 + z := or_add _ _ 16 (by omega) ⟨o * 256 + x * 16 + y, by omega⟩
  rw [e1, e2, e3, e4, u32_or _ _ (by omega) (by omega), s1, u32_or _ _ (by omega) (by omega), s2, u32_or _ _ (by omega) (by omega), s3]
  omega

/-- the fields of a word -/
def fA (x : Int) : Int := bits .and .u32 (x / 1048576) 15
def fB (x : Int) : Int := bits .and .u32 (x / 65536) 15
theorem fA_is {x : Int} (h0 : 0 ≤ x) (h1 : x < 4294967296) : fA x = x / 1048576 % 16 := by
  obtain ⟨n, hn⟩ : ∃ n : Nat, x / 1048576 = n := ⟨(x / 1048576).toNat, by omega⟩
  rw [fA, hn, show (15 : Int) = ((15 : Nat) : Int) from rfl, u32_and _ _ (by omega) (by decide), and15]
  omega
theorem fB_is {x : Int} (h0 : 0 ≤ x) (h1 : x < 4294967296) : fB x = x / 65536 % 16 := by
  obtain ⟨n, hn⟩ : ∃ n : Nat, x / 65536 = n := ⟨(x / 65536).toNat, by omega⟩
  rw [fB, hn, show (15 : Int) = ((15 : Nat) : Int) from rfl, u32_and _ _ (by omega) (by decide), and15]
  omega
def fC (x : Int) : Int := (x + 32768) % 65536 - 32768
structure Ins where
  op : Int
  a : Int
  b : Int
  c : Int
  deriving DecidableEq
def fields (x : Int) : Ins := ⟨x / 16777216, x / 1048576 % 16, x / 65536 % 16, fC x⟩
def encI (i : Ins) : Int × Int := encR i.op i.a i.b i.c
def decOk (x : Int) : Bool := (encI (fields x)).2 == 0 && (encI (fields x)).1 == x
def decR (x : Int) : Ins × Int := if decOk x = true then (fields x, 0) else (⟨0, 0, 0, 0⟩, 3)
theorem back {i : Ins} (h : (encI i).2 = 0) : (0 ≤ (encI i).1 ∧ (encI i).1 < 4294967296) ∧ decR (encI i).1 = (i, 0) := by
  obtain ⟨h1, h2, h3⟩ := encR_zero h
  have he : encI i = (wordZ i.op i.a i.b i.c, 0) := encR_ok h1 h2 h3
  have hs := wordZ_sum h1 h2
  have h2' := h2
  obtain ⟨a0, a1, b0, b1, c0, c1⟩ := h2
  have hf : fields (encI i).1 = i := by
    obtain ⟨op, a, b, c⟩ := i
    rw [he]
    simp only at *
    rw [hs, fields, fC]
    congr 1 <;> omega
  refine ⟨by rw [he, hs]; omega, ?_⟩
  have hd : decOk (encI i).1 = true := by
    rw [decOk, hf, h]; simp
  rw [decR, if_pos hd, hf]
theorem forth {x : Int} (h : (decR x).2 = 0) : encI (decR x).1 = (x, 0) := by
  unfold decR at h ⊢
  by_cases hd : decOk x = true
  · rw [if_pos hd]
    unfold decOk at hd
    simp at hd
    exact Prod.ext hd.2 hd.1
  · rw [if_neg hd] at h; cases h
theorem decR_bad {x : Int} (h : (decR x).2 ≠ 0) : decR x = (⟨0, 0, 0, 0⟩, 3) := by
  unfold decR at h ⊢
  by_cases hd : decOk x = true
  · rw [if_pos hd] at h; exact absurd rfl h
  · rw [if_neg hd]
end Go.Proofs.YtnbhohaphmilmaaGreatDoor.CodeLaw
namespace Go.Proofs.YtnbhohaphmilmaaGreatDoor
set_option linter.unusedSimpArgs false
set_option linter.unusedVariables false
open Go.ChangeShapes Go.WideShapes Go.Deep Go.RowKit

/-- A SLICE OF ARRAYS OF k INTS: element i's entry j is F i j. -/
def TabIn (w : World) (k : Nat) (v : Value) (len : Nat) (F : Nat → Nat → Int) : Prop :=
  ∃ (a : Option Addr) (cap : Nat), v = .slice a len cap ∧ len ≤ cap ∧ cap ≤ maxLen ∧ (len = 0 ∨ ∃ b off, a = some ⟨b, off, none⟩ ∧ b < w.heap.size ∧
    ∀ i, i < len → ∀ j, j < k → w.cell? ⟨b, off + i * k + j, none⟩ = some (.int .i64 (F i j)) ∧ -9223372036854775808 ≤ F i j ∧ F i j ≤ 9223372036854775807)

section
variable {H : Type} {enc : TypeId × Value → H} {P : Program} {w : World} {base : Nat} {held : Bool}
theorem open_tab {r : Reach} {b0 : Nat} {t e q : TypeId} {k : Nat} {v : Value} {d : DataW H} {p : List MemPlace} (ht : P.underlying t = some (.slice e)) (he : P.underlying e = some (.array k q)) (hq : P.underlying q = some (.int .i64))
    (hc1 : P.cellsOf q = 1) (hC : P.cellsOf e = k) (hpos : 0 < k)
    (hv : Value.okWide P w r b0 t v) (h : DataW.Trod enc P w base (fun _ => true) held t v d p) : ∃ len F, TabIn w k v len F := by
  obtain ⟨a0, len0, cap0, rfl⟩ := okWide_slice ht hv
  obtain ⟨fuel, hf⟩ := h
  rcases open_slice ht hf with ⟨hcs, _⟩ | ⟨a, len, cap, m, n, D, Pl, hcs, hb, hl, hm, hmm, hx, hi⟩
  · simp [Value.cells] at hcs
    obtain ⟨rfl, rfl, rfl⟩ := hcs
    exact ⟨0, fun _ _ => 0, none, 0, rfl, Nat.le_refl _, Nat.zero_le _, .inl rfl⟩
  · simp [Value.cells] at hcs
    obtain ⟨rfl, rfl, rfl⟩ := hcs
    have hmc : m = cap0 := by simpa using hmm
    by_cases h0 : len0 = 0
    · exact ⟨len0, fun _ _ => 0, some a, cap0, rfl, hl, hm, .inl h0⟩
    · obtain ⟨F, hF⟩ := choose_lt (α := Nat → Int) (n := len0) (p := fun i g => ∀ j, j < k → w.cell? (a.add (i * k + j)) = some (.int .i64 (g j)) ∧ -9223372036854775808 ≤ g j ∧ g j ≤ 9223372036854775807) (fun i hil => by
        obtain ⟨cs', hc, ht'⟩ := hi i (by omega)
        rw [hC] at hc
        obtain ⟨ys, n', hn', hy, hlen, hyl, hfld⟩ := DataW.trod_array he ht'
        obtain ⟨_, hcl, hat⟩ := World.cells?_some hc
        exact choose_lt (α := Int) (n := k) (p := fun j x => w.cell? (a.add (i * k + j)) = some (.int .i64 x) ∧ -9223372036854775808 ≤ x ∧ x ≤ 9223372036854775807) (fun j hj => by
          have hcell := hat j hj
          have hv : cs'[j]? = some (cs'[j]'(by omega)) := List.getElem?_eq_getElem (by omega)
          have h1 := hfld j hj
          rw [hc1, Nat.mul_one] at h1
          have hone' : (cs'.drop j).take 1 = [cs'[j]'(by omega)] := by
            rw [List.drop_eq_getElem_cons (by omega)]
            rfl
          rw [hone'] at h1
          have hys : ys[j]? = some (ys[j]'(by omega)) := List.getElem?_eq_getElem (by omega)
          rw [hys] at h1
          obtain ⟨z, hz, _, hw⟩ := DataW.trod_int hq h1
          have hz' : cs'[j]'(by omega) = .int .i64 z := by simpa using hz
          refine ⟨z, ?_, bounds_i64 hw⟩
          rw [← Go.Deep.add_add, hcell, hv, hz']))
      obtain ⟨b, off, spot⟩ := a
      have hc0 := (hF 0 (by omega) 0 hpos).1
      have hspot : spot = none := by simpa [Addr.add] using World.cell?_spot hc0
      subst hspot
      refine ⟨len0, F, _, cap0, rfl, hl, hm, .inr ⟨b, off, rfl, ?_, fun i hil j hj => ?_⟩⟩
      · have := World.block_lt_of_cell? w _ hc0
        rw [Addr.add_lit] at this
        exact this
      · have := hF i hil j hj
        rw [Addr.add_lit] at this
        rw [Nat.add_assoc]
        exact this
end
end Go.Proofs.YtnbhohaphmilmaaGreatDoor
namespace Go.Proofs.YtnbhohaphmilmaaGreatDoor.CodeLaw
open Go.RowKit
set_option linter.unusedVariables false

set_option maxRecDepth 100000 in
set_option maxHeartbeats 8000000 in
theorem enc_is (op a b c : Int) (w : World) :
    Calls Tryz.prog 81 #[.agg #[.int .i64 op, .int .i64 a, .int .i64 b, .int .i64 c]] w fun e w' => e = .returned (.tuple #[.int .u32 (encR op a b c).1, .int .i64 (encR op a b c).2]) ∧ Below w.heap.size w w' := by
  have hr := row_is op (w.alloc (.cells #[.int .i64 op, .int .i64 a, .int .i64 b, .int .i64 c] 89))
  have HB := Lib.hid (show Below w.heap.size w (w.alloc (.cells #[.int .i64 op, .int .i64 a, .int .i64 b, .int .i64 c] 89)) from Go.Joins.below_alloc1 _ _)
  by_cases hk : 1 ≤ op ∧ op ≤ 26
  · have hq := name_some hk
    have HK := Lib.hid hk
    obtain ⟨k1, k2⟩ := hk
    obtain ⟨s, hs⟩ : ∃ s, s = (rowS op).1 := ⟨_, rfl⟩
    obtain ⟨f, hf⟩ : ∃ f, f = (rowS op).2 := ⟨_, rfl⟩
    rw [← hs] at hq hr
    rw [← hf] at hr
    have HR := Lib.hid hr
    have HF := Lib.hid (show f = fldS op from hf)
    clear hr hs hf
    by_cases hi : inF a b c
    · have HI := Lib.hid hi
      obtain ⟨a0, a1, b0, b1, c0, c1⟩ := hi
      have hcase : ((Hid (okF f a b c = false) ∧
          ((((bits .and .i64 f 1 == 0) = true ∧ (a != 0) = true)) ∨
           (((bits .and .i64 f 1 == 0) = false ∨ ((bits .and .i64 f 1 == 0) = true ∧ (a != 0) = false)) ∧ (bits .and .i64 f 2 == 0) = true ∧ (b != 0) = true) ∨
           (((bits .and .i64 f 1 == 0) = false ∨ ((bits .and .i64 f 1 == 0) = true ∧ (a != 0) = false)) ∧ ((bits .and .i64 f 2 == 0) = false ∨ ((bits .and .i64 f 2 == 0) = true ∧ (b != 0) = false)) ∧ (bits .and .i64 f 4 == 0) = true ∧ (c != 0) = true))) ∨
          (Hid (okF f a b c = true) ∧ ((bits .and .i64 f 1 == 0) = false ∨ ((bits .and .i64 f 1 == 0) = true ∧ (a != 0) = false)) ∧ ((bits .and .i64 f 2 == 0) = false ∨ ((bits .and .i64 f 2 == 0) = true ∧ (b != 0) = false)) ∧ ((bits .and .i64 f 4 == 0) = false ∨ ((bits .and .i64 f 4 == 0) = true ∧ (c != 0) = false)))) := by
        have hd : ∀ z, okF f a b c = z → Hid (okF f a b c = z) := fun z h => Lib.hid h
        have ho : okF f a b c = !((bits .and .i64 f 1 == 0 && a != 0) || (bits .and .i64 f 2 == 0 && b != 0) || (bits .and .i64 f 4 == 0 && c != 0)) := rfl
        generalize (bits .and .i64 f 1 == 0) = x1 at *
        generalize (bits .and .i64 f 2 == 0) = x2 at *
        generalize (bits .and .i64 f 4 == 0) = x3 at *
        generalize (a != 0) = y1 at *
        generalize (b != 0) = y2 at *
        generalize (c != 0) = y3 at *
        generalize okF f a b c = o at *
        clear HR HF HI HK HB
        cases x1 <;> cases x2 <;> cases x3 <;> cases y1 <;> cases y2 <;> cases y3 <;> simp at ho <;> subst ho <;> simp <;> first | exact Lib.hid trivial | exact hd _ rfl
      rcases hcase with ⟨HO, hcase⟩ | ⟨HO, g1, g2, g3⟩
      · have HE := Lib.hid (encR_form HK.out HI.out (by rw [← HF.out, HO.out]; simp))
        rcases hcase with ⟨t1, t2⟩ | ⟨g1, t1, t2⟩ | ⟨g1, g2, t1, t2⟩
        · go_enter Tryz.func81, Tryz.ntmps81
          go_wp2_with fail
          refine HR.out.mono ?_
          rintro e w1 ⟨rfl, rfl⟩
          go_wp2
          go_ret2
          exact ⟨by rw [HE.out]; rfl, HB.out⟩
        · rcases g1 with g1 | ⟨g1, g1'⟩
          all_goals
            go_enter Tryz.func81, Tryz.ntmps81
            go_wp2_with fail
            refine HR.out.mono ?_
            rintro e w1 ⟨rfl, rfl⟩
            go_wp2
            go_ret2
            exact ⟨by rw [HE.out]; rfl, HB.out⟩
        · rcases g1 with g1 | ⟨g1, g1'⟩ <;> rcases g2 with g2 | ⟨g2, g2'⟩
          all_goals
            go_enter Tryz.func81, Tryz.ntmps81
            go_wp2_with fail
            refine HR.out.mono ?_
            rintro e w1 ⟨rfl, rfl⟩
            go_wp2
            go_ret2
            exact ⟨by rw [HE.out]; rfl, HB.out⟩
      · have HE := Lib.hid (encR_ok HK.out HI.out (by rw [← HF.out]; exact HO.out))
        rcases g1 with g1 | ⟨g1, g1'⟩ <;> rcases g2 with g2 | ⟨g2, g2'⟩ <;> rcases g3 with g3 | ⟨g3, g3'⟩
        all_goals
          go_enter Tryz.func81, Tryz.ntmps81
          go_wp2_with fail
          refine HR.out.mono ?_
          rintro e w1 ⟨rfl, rfl⟩
          go_wp2
          go_ret2
          exact ⟨by rw [HE.out]; rfl, HB.out⟩
    · have HE := Lib.hid (encR_out HK.out hi)
      have hcase : a < 0 ∨ (0 ≤ a ∧ 8 ≤ a) ∨ ((0 ≤ a ∧ a < 8) ∧ b < 0) ∨ ((0 ≤ a ∧ a < 8) ∧ 0 ≤ b ∧ 8 ≤ b) ∨ ((0 ≤ a ∧ a < 8) ∧ (0 ≤ b ∧ b < 8) ∧ c < -32768) ∨ ((0 ≤ a ∧ a < 8) ∧ (0 ≤ b ∧ b < 8) ∧ -32768 ≤ c ∧ 32767 < c) := by unfold inF at hi; omega
      clear hi
      rcases hcase with hh | hh | hh | hh | hh | hh
      all_goals
        go_enter Tryz.func81, Tryz.ntmps81
        go_wp2_with fail
        refine HR.out.mono ?_
        rintro e w1 ⟨rfl, rfl⟩
        go_wp2
        go_ret2
        exact ⟨by rw [HE.out]; rfl, HB.out⟩
  · have HE := Lib.hid (encR_none (a := a) (b := b) (c := c) hk)
    rw [rowS_none hk] at hr
    have HR := Lib.hid hr
    clear hr hk
    go_enter Tryz.func81, Tryz.ntmps81
    go_wp2_with fail
    refine HR.out.mono ?_
    rintro e w1 ⟨rfl, rfl⟩
    go_wp2
    go_ret2
    exact ⟨by rw [HE.out]; rfl, HB.out⟩
end Go.Proofs.YtnbhohaphmilmaaGreatDoor.CodeLaw
namespace Go.Proofs.YtnbhohaphmilmaaGreatDoor.CodeLaw
open Go.RowKit
set_option linter.unusedVariables false

abbrev insV (i : Ins) : Value := .agg #[.int .i64 i.op, .int .i64 i.a, .int .i64 i.b, .int .i64 i.c]
theorem encI_is (i : Ins) (w : World) : Calls Tryz.prog 81 #[insV i] w fun e w' => e = .returned (.tuple #[.int .u32 (encI i).1, .int .i64 (encI i).2]) ∧ Below w.heap.size w w' := enc_is i.op i.a i.b i.c w
theorem wrap_small {n : Int} (h0 : -32768 ≤ n) (h1 : n < 4294967296) : wrap64 n = n := by
  unfold wrap64; omega
theorem i16_wrap (n : Int) : IntKind.i16.wrap n = (n + 32768) % 65536 - 32768 := by
  simp [IntKind.wrap, IntKind.bits, IntKind.signed]
  split <;> omega

set_option maxRecDepth 100000 in
set_option maxHeartbeats 4000000 in
theorem dec_is (x : Int) (w : World) (h0 : 0 ≤ x) (h1 : x < 4294967296) :
    Calls Tryz.prog 94 #[.int .u32 x] w fun e w' => e = .returned (.tuple #[insV (decR x).1, .int .i64 (decR x).2]) ∧ Below w.heap.size w w' := by
  obtain ⟨o, ho⟩ : ∃ o, x / 16777216 = o := ⟨_, rfl⟩
  obtain ⟨a, ha⟩ : ∃ o, x / 1048576 % 16 = o := ⟨_, rfl⟩
  obtain ⟨b, hb⟩ : ∃ o, x / 65536 % 16 = o := ⟨_, rfl⟩
  obtain ⟨c, hc⟩ : ∃ o, fC x = o := ⟨_, rfl⟩
  have hf : fields x = ⟨o, a, b, c⟩ := by rw [fields, ho, ha, hb, hc]
  have e1 : wrap64 (bits .and .u32 (x / 1048576) 15) = a := by
    rw [show bits .and .u32 (x / 1048576) 15 = a from (fA_is h0 h1).trans ha]; exact wrap_small (by omega) (by omega)
  have e2 : wrap64 (bits .and .u32 (x / 65536) 15) = b := by
    rw [show bits .and .u32 (x / 65536) 15 = b from (fB_is h0 h1).trans hb]; exact wrap_small (by omega) (by omega)
  have e3 : wrap64 (IntKind.i16.wrap x) = c := by
    rw [show IntKind.i16.wrap x = c from (i16_wrap x).trans hc]; unfold fC at hc; exact wrap_small (by omega) (by omega)
  have hA : Below w.heap.size w ((w.alloc (.cells #[.int .i64 0, .int .i64 0, .int .i64 0, .int .i64 0] 89)).alloc (.cells #[.int .i64 o, .int .i64 a, .int .i64 b, .int .i64 c] 89)) := Go.Joins.below_alloc2 _ _ _
  have hN : Has ((w.alloc (.cells #[.int .i64 0, .int .i64 0, .int .i64 0, .int .i64 0] 89)).alloc (.cells #[.int .i64 o, .int .i64 a, .int .i64 b, .int .i64 c] 89)) (w.heap.size + 1) [.int .i64 o, .int .i64 a, .int .i64 b, .int .i64 c] := by
    have := has_new (w.alloc (.cells #[.int .i64 0, .int .i64 0, .int .i64 0, .int .i64 0] 89)) [.int .i64 o, .int .i64 a, .int .i64 b, .int .i64 c] 89
    simpa using this
  have hM : Has ((w.alloc (.cells #[.int .i64 0, .int .i64 0, .int .i64 0, .int .i64 0] 89)).alloc (.cells #[.int .i64 o, .int .i64 a, .int .i64 b, .int .i64 c] 89)) w.heap.size [.int .i64 0, .int .i64 0, .int .i64 0, .int .i64 0] := (has_new w [.int .i64 0, .int .i64 0, .int .i64 0, .int .i64 0] 89).alloc _
  have hz : ∀ i, ((w.alloc (.cells #[.int .i64 0, .int .i64 0, .int .i64 0, .int .i64 0] 89)).alloc (.cells #[.int .i64 o, .int .i64 a, .int .i64 b, .int .i64 c] 89)).frozen? ⟨w.heap.size, i, none⟩ = false := fun i => by simp
  obtain ⟨y, hy⟩ : ∃ y, y = (encR o a b c).1 := ⟨_, rfl⟩
  obtain ⟨z, hz2⟩ : ∃ z, z = (encR o a b c).2 := ⟨_, rfl⟩
  have hcall := enc_is o a b c ((w.alloc (.cells #[.int .i64 0, .int .i64 0, .int .i64 0, .int .i64 0] 89)).alloc (.cells #[.int .i64 o, .int .i64 a, .int .i64 b, .int .i64 c] 89))
  rw [← hy, ← hz2] at hcall
  have hd : decR x = if z = 0 ∧ y = x then (⟨o, a, b, c⟩, 0) else (⟨0, 0, 0, 0⟩, 3) := by
    unfold decR decOk encI
    rw [hf]
    simp only
    rw [← hy, ← hz2]
    by_cases hh : z = 0 ∧ y = x
    · rw [if_pos hh, if_pos (by simp [hh])]
    · rw [if_neg hh, if_neg (by simpa using hh)]
  have HO := Lib.hid ho
  have H1 := Lib.hid e1
  have H2 := Lib.hid e2
  have H3 := Lib.hid e3
  have HC := Lib.hid hcall
  have HD := Lib.hid hd
  have HA := Lib.hid hA
  have HN := Lib.hid hN
  have HM := Lib.hid hM
  have HZ := Lib.hid hz
  clear ho ha hb hc hf e1 e2 e3 hcall hd hy hz2 hA hN hM hz
  have hcase : (z = 0 ∧ (y == x) = true ∧ Hid (y = x)) ∨ (z = 0 ∧ (y == x) = false ∧ Hid (y ≠ x)) ∨ ((z == 0) = false ∧ Hid (z ≠ 0)) := by
    by_cases hz : z = 0
    · by_cases hx : y = x
      · exact .inl ⟨hz, by simp [hx], hx⟩
      · exact .inr (.inl ⟨hz, by simp [hx], hx⟩)
    · exact .inr (.inr ⟨by simp [hz], hz⟩)
  go_enter Tryz.func94, Tryz.ntmps94
  go_wp2_with fail
  rw [HO.out, H1.out, H2.out, H3.out]
  refine HC.out.mono ?_
  rintro e w1 ⟨rfl, hb1⟩
  have hN1 := HN.out.keep hb1
  have hM1 := HM.out.keep hb1
  have hB1 := HA.out.trans (hb1.mono HA.out.size)
  have hz1 := fun i => (hb1.frozen (p := ⟨w.heap.size, i, none⟩) HM.out.1).trans (HZ.out i)
  have z0 := hz1 0
  have z1 := hz1 1
  have z2 := hz1 2
  have z3 := hz1 3
  have n0 := hN1.2 0 _ rfl
  have n1 := hN1.2 1 _ rfl
  have n2 := hN1.2 2 _ rfl
  have n3 := hN1.2 3 _ rfl
  have m0 := hM1.2 0 _ rfl
  have m1 := hM1.2 1 _ rfl
  have m2 := hM1.2 2 _ rfl
  have m3 := hM1.2 3 _ rfl
  have HB1 := Lib.hid hB1
  clear hN1 hM1 hz1 hb1 hB1
  rcases hcase with ⟨rfl, hyx, HX⟩ | ⟨rfl, hyx, HX⟩ | ⟨hz, HX⟩
  · have HE := Lib.hid (HD.out.trans (if_pos ⟨rfl, HX.out⟩))
    go_wp2
    refine bodyPost_ret (v := .tuple #[insV ⟨o, a, b, c⟩, .int .i64 0]) (by simp [results, Tryz.results94, go_sem, m0, m1, m2, m3]) rfl ⟨by rw [HE.out], ?_⟩
    repeat (first | refine Below.setCell ?_ (by simp <;> omega) _ | refine Below.drew ?_)
    exact HB1.out
  · have HE := Lib.hid (HD.out.trans (if_neg fun h => HX.out h.2))
    go_wp2
    refine bodyPost_ret (v := .tuple #[insV ⟨0, 0, 0, 0⟩, .int .i64 3]) (by simp [results, Tryz.results94, go_sem, m0, m1, m2, m3]) rfl ⟨by rw [HE.out], ?_⟩
    repeat (first | refine Below.setCell ?_ (by simp <;> omega) _ | refine Below.drew ?_)
    exact HB1.out
  · have HE := Lib.hid (HD.out.trans (if_neg fun h => HX.out h.1))
    go_wp2
    refine bodyPost_ret (v := .tuple #[insV ⟨0, 0, 0, 0⟩, .int .i64 3]) (by simp [results, Tryz.results94, go_sem, m0, m1, m2, m3]) rfl ⟨by rw [HE.out], ?_⟩
    repeat (first | refine Below.setCell ?_ (by simp <;> omega) _ | refine Below.drew ?_)
    exact HB1.out
end Go.Proofs.YtnbhohaphmilmaaGreatDoor.CodeLaw
namespace Go.Proofs.YtnbhohaphmilmaaGreatDoor
open Go.RowKit
set_option linter.unusedVariables false
set_option linter.unusedSimpArgs false
theorem owns_keep {w w' : World} {B e s n : Nat} {v : Value} {l : List Value} (h : w.ownsRow B e s v n l) (hb : Below w.heap.size w w') : w'.ownsRow B e s v n l :=
  h.kept (row := none) ⟨hb.os, hb.tape, hb.output, hb.size, fun k hk _ => hb.block k hk⟩ (by cases hv : v.ownBlock <;> simp)
theorem own_form {w : World} {B e n : Nat} {v : Value} {l : List Value} {s : Nat} (h : w.ownsRow B e s v n l) : ∃ p cap, v = .slice p n cap := by
  rcases h.2 with ⟨rfl, hn⟩ | ⟨g, cap', cur, rfl, _⟩
  · exact ⟨none, 0, by rw [hn]⟩
  · exact ⟨_, cap', rfl⟩
theorem owns_base {w : World} {B B' e s n : Nat} {v : Value} {l : List Value} (h : w.ownsRow B e s v n l) (hB : B' ≤ B) : w.ownsRow B' e s v n l := by
  refine ⟨h.1, ?_⟩
  rcases h.2 with h | ⟨g, cap, cur, h1, h2, h3⟩
  · exact .inl h
  · exact .inr ⟨g, cap, cur, h1, Nat.le_trans hB h2, h3⟩
/-- a store into another block -/
theorem owns_set {w : World} {B e s n c i : Nat} {v x : Value} {l : List Value} (h : w.ownsRow B e s v n l) (hc : v.ownBlock ≠ some c) : (w.setCell ⟨c, i, none⟩ x).ownsRow B e s v n l := by
  refine h.kept (row := some c) ⟨rfl, rfl, rfl, by simp [World.setCell], fun k hk hne => Below.heap_setCell _ _ _ _ (by intro e; exact hne (by rw [e]))⟩ ?_
  exact .inr hc
theorem far_row {w : World} {B e s n n3 : Nat} {v : Value} {l : List Value} (h : w.ownsRow B e s v n l) (hB : n3 < B) : v.ownBlock ≠ some n3 := fun e => by have := (h.lt n3 e).1; omega
theorem gb {w w' : World} (hb : Below w.heap.size w w') : w.grownBy w' none := ⟨hb.os, hb.tape, hb.output, hb.size, fun k hk _ => hb.block k hk⟩
/-- fewer elements of one's own -/
theorem owns_take {w : World} {B e n cap k : Nat} {a : Option Addr} {l : List Value} (h : w.ownsRow B e 1 (.slice a n cap) n l) (hk : k ≤ n) (h0 : 0 < n) : w.ownsRow B e 1 (.slice a k cap) k (l.take k) := by
  have hl := h.1
  refine ⟨by rw [List.length_take, hl]; omega, ?_⟩
  rcases h.2 with ⟨he, hn⟩ | ⟨g, c, cur, he, hb, hg, hnc, hcm, hcs, ht⟩
  · omega
  · simp only [Value.slice.injEq] at he
    obtain ⟨rfl, -, rfl⟩ := he
    refine .inr ⟨g, _, cur, rfl, hb, hg, by omega, hcm, hcs, ?_⟩
    rw [← ht]
    simp only [Nat.mul_one, List.take_take]
    congr 1
    omega
theorem own_block {w : World} {B e n cap : Nat} {a : Option Addr} {l : List Value} {s : Nat} (h : w.ownsRow B e s (.slice a n cap) n l) (h0 : 0 < n) : ∃ g, a = some ⟨g, 0, none⟩ ∧ B ≤ g ∧ g < w.heap.size ∧ n ≤ cap ∧ cap ≤ maxLen := by
  rcases h.2 with ⟨he, hn⟩ | ⟨g, c, cur, he, hb, hg, hnc, hcm, hcs, ht⟩
  · omega
  · simp only [Value.slice.injEq] at he
    obtain ⟨rfl, -, rfl⟩ := he
    exact ⟨g, rfl, hb, (Array.getElem?_eq_some_iff.1 hg).1, hnc, hcm⟩
end Go.Proofs.YtnbhohaphmilmaaGreatDoor
namespace Go.Proofs.YtnbhohaphmilmaaGreatDoor
open Go.RowKit
set_option linter.unusedVariables false
set_option linter.unusedSimpArgs false
/-- From w on only blocks of S were turned. -/
structure Upd (S : Nat → Prop) (w w' : World) : Prop where
  os : w'.os = w.os
  tape : w'.tape = w.tape
  output : w'.output = w.output
  size : w.heap.size ≤ w'.heap.size
  block : ∀ k, k < w.heap.size → ¬ S k → w'.heap[k]? = w.heap[k]?
section
variable {S S' : Nat → Prop} {w w' a b c : World}
theorem Upd.refl (S : Nat → Prop) (w : World) : Upd S w w := ⟨rfl, rfl, rfl, Nat.le_refl _, fun _ _ _ => rfl⟩
theorem Upd.trans' (h : Upd S a b) (k : Upd S' b c) (hs : ∀ i, i < a.heap.size → S' i → S i) : Upd S a c :=
  ⟨k.os.trans h.os, k.tape.trans h.tape, k.output.trans h.output, Nat.le_trans h.size k.size, fun i hi hn => (k.block i (Nat.lt_of_lt_of_le hi h.size) (fun e => hn (hs i hi e))).trans (h.block i hi hn)⟩
theorem Upd.trans (h : Upd S a b) (k : Upd S b c) : Upd S a c := h.trans' k (fun _ _ e => e)
theorem Upd.mono (h : Upd S a b) (hs : ∀ i, i < a.heap.size → S i → S' i) : Upd S' a b :=
  ⟨h.os, h.tape, h.output, h.size, fun i hi hn => h.block i hi (fun e => hn (hs i hi e))⟩
theorem Upd.below (h : Below w.heap.size w w') : Upd S w w' := ⟨h.os, h.tape, h.output, h.size, fun i hi _ => h.block i hi⟩
theorem Upd.grown {b : Nat} (h : w.grownBy w' (some b)) (hb : S b) : Upd S w w' := ⟨h.os, h.tape, h.output, h.size, fun i hi hn => h.block i hi (by intro e; injection e with e; subst e; exact hn hb)⟩
theorem Upd.grown0 {row : Option Nat} (h : w.grownBy w' row) (hb : ∀ b, row = some b → b < w.heap.size → S b) : Upd S w w' := ⟨h.os, h.tape, h.output, h.size, fun i hi hn => h.block i hi (fun e => hn (hb i e.symm hi))⟩
theorem Upd.set (w : World) {b i : Nat} (v : Value) (hb : S b) : Upd S w (w.setCell ⟨b, i, none⟩ v) :=
  ⟨rfl, rfl, rfl, by simp [World.setCell], fun k hk hn => Below.heap_setCell _ _ _ _ (by intro e; subst e; exact hn hb)⟩
theorem Upd.setRow (w : World) {b : Nat} (C : Array Value) (hb : S b) : Upd S w (w.setRow b C) :=
  ⟨rfl, rfl, rfl, by simp [World.setRow], fun k hk hn => setRow_other w b k C (by intro e; subst e; exact hn hb)⟩
theorem Upd.drewN (w : World) (n : Nat) : Upd S w (w.drewN n) := ⟨rfl, rfl, rfl, Nat.le_refl _, fun _ _ _ => rfl⟩
theorem Upd.drew (w : World) : Upd S w w.drew := ⟨rfl, rfl, rfl, Nat.le_refl _, fun _ _ _ => rfl⟩
theorem Upd.alloc (w : World) (o : Obj) : Upd S w (w.alloc o) := Upd.below ((Below.refl _ _).alloc (Nat.le_refl _) o)
theorem Upd.cell (h : Upd S w w') {b o : Nat} (hb : b < w.heap.size) (hn : ¬ S b) : w'.cell? ⟨b, o, none⟩ = w.cell? ⟨b, o, none⟩ := by
  have := h.block b hb hn
  simp only [World.cell?, this]
theorem Upd.frozen (h : Upd S w w') {b o : Nat} (hb : b < w.heap.size) (hn : ¬ S b) : w'.frozen? ⟨b, o, none⟩ = w.frozen? ⟨b, o, none⟩ := by
  have := h.block b hb hn
  simp only [World.frozen?, this]
theorem Upd.toBelow {B : Nat} (h : Upd S w w') (hB : B ≤ w.heap.size) (hs : ∀ k, k < B → ¬ S k) : Below B w w' :=
  ⟨h.os, h.tape, h.output, h.size, fun k hk => h.block k (by omega) (hs k hk)⟩
theorem Upd.owns {B e s n : Nat} {v : Value} {l : List Value} (h : Upd S w w') (ho : w.ownsRow B e s v n l) (hn : ∀ g, v.ownBlock = some g → ¬ S g) : w'.ownsRow B e s v n l := by
  refine ⟨ho.1, ?_⟩
  rcases ho.2 with h0 | ⟨g, c, cur, he, hb, hg, hr⟩
  · exact .inl h0
  · exact .inr ⟨g, c, cur, he, hb, (h.block g (Array.getElem?_eq_some_iff.1 hg).1 (hn g (by rw [he]; rfl))).trans hg, hr⟩
end
/-- a store into a cell that is there -/
theorem set_same {w : World} {b i : Nat} {x y : Value} (h : w.cell? ⟨b, i, none⟩ = some y) : (w.setCell ⟨b, i, none⟩ x).cell? ⟨b, i, none⟩ = some x := by
  simp [go_sem, h]
theorem set_off {w : World} {b c i j : Nat} {x v : Value} (hj : j ≠ i) (h : w.cell? ⟨b, j, none⟩ = some v) : (w.setCell ⟨c, i, none⟩ x).cell? ⟨b, j, none⟩ = some v := by
  rw [World.cell?_setCell_other _ _ _ _ (by intro e; exact hj (by simpa using (congrArg Addr.off e).symm))]; exact h
theorem set_blk {w : World} {b c i j : Nat} {x v : Value} (hj : b ≠ c) (h : w.cell? ⟨b, j, none⟩ = some v) : (w.setCell ⟨c, i, none⟩ x).cell? ⟨b, j, none⟩ = some v := by
  rw [World.cell?_setCell_other _ _ _ _ (by intro e; exact hj (by simpa using (congrArg Addr.block e).symm))]; exact h
theorem grown_cell {w w' : World} {row : Option Nat} (h : w.grownBy w' row) {b o : Nat} (hlt : b < w.heap.size) (hne : some b ≠ row) : w'.cell? ⟨b, o, none⟩ = w.cell? ⟨b, o, none⟩ := by
  have := h.block b hlt hne
  simp only [World.cell?, this]
theorem grown_frozen {w w' : World} {row : Option Nat} (h : w.grownBy w' row) {b o : Nat} (hlt : b < w.heap.size) (hne : some b ≠ row) : w'.frozen? ⟨b, o, none⟩ = w.frozen? ⟨b, o, none⟩ := by
  have := h.block b hlt hne
  simp only [World.frozen?, this]
theorem below_drewN {B : Nat} {a w : World} (h : Below B a w) (n : Nat) : Below B a (w.drewN n) := ⟨h.os, h.tape, h.output, h.size, h.block⟩
end Go.Proofs.YtnbhohaphmilmaaGreatDoor
namespace Go.Proofs.YtnbhohaphmilmaaGreatDoor
open Go.RowKit
set_option linter.unusedVariables false
set_option linter.unusedSimpArgs false
theorem info5 : (Tryz.prog.info? 5).map (fun i => (i.zero, i.size, i.bytes)) = some (some (.int .u8 0), 1, 1) := by kernel_rfl
abbrev u8V (x : Int) : Value := .int .u8 x
theorem u8V_one (l : List Int) : ∀ u ∈ l.map u8V, u.oneCell' = true := by
  intro u hu
  obtain ⟨x, _, rfl⟩ := List.mem_map.1 hu
  rfl
theorem cells_u8 {w : World} {b off : Nat} {l : List Int} (h : ∀ i, i < l.length → w.cell? ⟨b, off + i, none⟩ = some (u8V (l.getD i 0))) : ∀ j u, (l.map u8V)[j]? = some u → w.cell? ((⟨b, off, none⟩ : Addr).add j) = some u := by
  intro j u hj
  rw [Addr.add_lit]
  rw [List.getElem?_map] at hj
  have hlt : j < l.length := by
    rcases Nat.lt_or_ge j l.length with h | h
    · exact h
    · rw [List.getElem?_eq_none h] at hj; cases hj
  rw [h j hlt]
  simp [hlt] at hj
  simp [List.getD, hlt, hj]
/-- what Clone leaves: bytes in a block of their own -/
def CloneB (l : List Int) (w : World) (e : Ending) (w' : World) : Prop := ∃ v', e = .returned v' ∧ w'.ownsRow w.heap.size 5 1 v' l.length (l.map u8V) ∧ Below w.heap.size w w'
set_option maxRecDepth 100000 in
set_option maxHeartbeats 400000 in
theorem cloneB_is {w : World} {v : Value} {l : List Int} (h8 : l.length ≤ 140737488355328) (hm : At (Value.int .u8) 0 w v l) : Calls Tryz.prog 114 #[v] w (CloneB l w) := by
  obtain ⟨a, cap, rfl, hl, hcap, hm⟩ := hm
  have q22 : ∀ (w : World) (a : Option Addr) (n c n' c' : Nat), (binOp .eql 54 (.slice a n c) (.slice none n' c')).run Tryz.prog w = .ok (.bool a.isNone) w := fun w a n c n' c' => Lib.run_eql_slice_nil w _ _ a n c n' c' Tryz.underlying54
  cases a with
  | none =>
    have h0 : l = [] := by
      rcases hm with h | ⟨b, off, h, _⟩
      · exact h
      · cases h
    subst h0
    clear hm
    go_enter Tryz.func114, Tryz.ntmps114
    go_wp2
    go_ret
    exact ⟨_, rfl, World.ownsRow_nil _ _ _ _, Below.refl _ _⟩
  | some ad =>
    have hcl : ∀ j u, (l.map u8V)[j]? = some u → w.cell? (ad.add j) = some u := by
      rcases hm with h | ⟨b, off, hab, hlt, hc⟩
      · intro j u hj
        subst h
        simp at hj
      · simp only [Option.some.injEq] at hab
        subst hab
        exact fun j u hj => cells_u8 hc j u hj
    have hlen : (l.map u8V).length = l.length * 1 := by simp
    have hone := u8V_one l
    obtain ⟨n, hn⟩ : ∃ n, n = l.length := ⟨_, rfl⟩
    unfold CloneB
    rw [← hn] at h8 hl hlen ⊢
    generalize l.map u8V = cs at *
    have HC := Lib.hid hcl
    have HO := Lib.hid hone
    have H8 := Lib.hid h8
    clear hm hn hcl hone h8
    obtain ⟨i0, hi, hz0, hz1, hz2⟩ := info_parts info5
    go_enter Tryz.func114, Tryz.ntmps114
    go_wp2_with (at_builtin; go_loud (refine wpList_append_fresh _ rfl (.tmp 5) (.tmp 6) 54 rfl w.heap.size 5 i0 (.int .u8 0) 1 1 Tryz.underlying54 hi hz0 hz1 hz2 rfl (by decide) _ _ _ rfl (World.ownsRow_made w #[] 0 (Nat.le_refl _) (Nat.zero_le _) rfl) ad n _ cs rfl hlen (fun j u h => by have := HC.out j u h; rw [World.cell?_alloc_lt]; exact this; exact World.block_lt_of_cell? w _ this) HO.out (by have := H8.out; unfold maxLen; omega) (by have := H8.out; omega) (by simp) ?_))
    intro v' w1 hown hgrow hfresh
    have hb1 : Below w.heap.size w w1 := ((Below.refl _ _).alloc (Nat.le_refl _) _).grown hgrow (by simp) (fun g hg => by simp [Value.ownBlock] at hg; omega)
    clear hgrow hfresh
    rcases hown.2 with ⟨rfl, hn⟩ | ⟨g, cap', cur, rfl, hb, hg, hnc, hcm, hcs, htake⟩
    · go_wp2
      go_ret
      exact ⟨_, rfl, by simpa using hown, hb1⟩
    · clear hb hg hnc hcm hcs htake
      go_wp2
      go_ret
      exact ⟨_, rfl, by simpa using hown, hb1⟩
end Go.Proofs.YtnbhohaphmilmaaGreatDoor
