/- The forest of trees of nodes: its cells; the walk of bits.With. -/
import Derived.Test.YtdkbmkapnapahaaGreatDoorKerP
import Derived.Test.YtdkbmkapnapahaaGreatDoorBits
namespace Go.Proofs.YtdkbmkapnapahaaGreatDoor
open Go.RowKit
set_option linter.unusedVariables false
set_option linter.unusedSimpArgs false
def fV (j x : Nat) : Value := if j % 48 < 16 then .int .i64 x else .int .u8 x
def forA (G : Nat → Nat) : Array Value := Array.ofFn (n := 192) (fun j => fV j.val (G j.val))
def treA (G : Nat → Nat) : Array Value := Array.ofFn (n := 48) (fun j => fV j.val (G j.val))
def setA (h : Nat → Nat) : Array Value := Array.ofFn (n := 32) (fun j => .int .u8 (h j.val))
def nodA (h : Nat → Nat) : Array Value := Array.ofFn (n := 16) (fun j => .int .i64 (h j.val))
theorem forA_size (G) : (forA G).size = 192 := by simp [forA]
theorem treA_size (G) : (treA G).size = 48 := by simp [treA]
theorem setA_size (G) : (setA G).size = 32 := by simp [setA]
theorem nodA_size (G) : (nodA G).size = 16 := by simp [nodA]
theorem forA_get (G) {j : Nat} (h : j < 192) : (forA G)[j]? = some (fV j (G j)) := by simp [forA, h]
theorem treA_get (G) {j : Nat} (h : j < 48) : (treA G)[j]? = some (fV j (G j)) := by simp [treA, h]
theorem setA_get (G) {j : Nat} (h : j < 32) : (setA G)[j]? = some (.int .u8 (G j)) := by simp [setA, h]
theorem nodA_get (G) {j : Nat} (h : j < 16) : (nodA G)[j]? = some (.int .i64 (G j)) := by simp [nodA, h]
theorem fV_one (j x : Nat) : (fV j x).oneCell' = true := by unfold fV; split <;> rfl
theorem setA_one (G) : (setA G).all (·.oneCell') = true := by
  rw [Array.all_eq_true]
  intro i hi
  simp [setA, Value.oneCell']
theorem forA_one (G) : (forA G).all (·.oneCell') = true := by
  rw [Array.all_eq_true]
  intro i hi
  simp only [forA, Array.getElem_ofFn]
  exact fV_one _ _
theorem fV_lo {k i : Nat} (hi : i < 16) (x : Nat) : fV (k * 48 + i) x = .int .i64 x := by unfold fV; rw [if_pos (by omega)]
theorem fV_hi {k i : Nat} (h1 : i < 32) (x : Nat) : fV (k * 48 + 16 + i) x = .int .u8 x := by unfold fV; rw [if_neg (by omega)]
/-- G with x at j -/
def up (G : Nat → Nat) (j x : Nat) : Nat → Nat := fun i => if i = j then x else G i
/-- G with n of h from o on -/
def ups (G : Nat → Nat) (o n : Nat) (h : Nat → Nat) : Nat → Nat := fun i => if o ≤ i ∧ i < o + n then h (i - o) else G i
theorem forA_ext {G H : Nat → Nat} (h : ∀ j, j < 192 → G j = H j) : forA G = forA H := by
  apply Array.ext
  · simp [forA_size]
  · intro i h1 h2
    simp only [forA, Array.getElem_ofFn]
    rw [h i (by simpa [forA_size] using h1)]
theorem setA_ext {G H : Nat → Nat} (h : ∀ j, j < 32 → G j = H j) : setA G = setA H := by
  apply Array.ext
  · simp [setA_size]
  · intro i h1 h2
    simp only [setA, Array.getElem_ofFn]
    rw [h i (by simpa [setA_size] using h1)]
theorem forA_up (G) {j x : Nat} (h : j < 192) : (forA G).setIfInBounds j (fV j x) = forA (up G j x) := by
  apply Array.ext_getElem?
  intro i
  rw [Array.getElem?_setIfInBounds]
  by_cases hi : i < 192
  · rw [forA_get _ hi, forA_get _ hi]
    unfold up
    by_cases e : i = j
    · subst e; rw [if_pos rfl, if_pos rfl, if_pos (by rw [forA_size]; exact h)]
    · rw [if_neg (fun q => e q.symm), if_neg e]
  · rw [if_neg (by omega), Array.getElem?_eq_none (by rw [forA_size]; omega), Array.getElem?_eq_none (by rw [forA_size]; omega)]
theorem setA_up (G) {j x : Nat} (h : j < 32) : (setA G).setIfInBounds j (.int .u8 x) = setA (up G j x) := by
  apply Array.ext_getElem?
  intro i
  rw [Array.getElem?_setIfInBounds]
  by_cases hi : i < 32
  · rw [setA_get _ hi, setA_get _ hi]
    unfold up
    by_cases e : i = j
    · subst e; rw [if_pos rfl, if_pos rfl, if_pos (by rw [setA_size]; exact h)]
    · rw [if_neg (fun q => e q.symm), if_neg e]
  · rw [if_neg (by omega), Array.getElem?_eq_none (by rw [setA_size]; omega), Array.getElem?_eq_none (by rw [setA_size]; omega)]
theorem forA_set (G) {k : Nat} (hk : k < 4) : (forA G).extract (k * 48 + 16) (k * 48 + 16 + 32) = setA (fun j => G (k * 48 + 16 + j)) := by
  apply Array.ext
  · simp [forA_size, setA_size]; omega
  · intro i h1 h2
    have hi : i < 32 := by simpa [setA_size] using h2
    simp only [Array.getElem_extract, forA, setA, Array.getElem_ofFn]
    exact fV_hi hi _
theorem forA_nod (G) {k : Nat} (hk : k < 4) : (forA G).extract (k * 48) (k * 48 + 16) = nodA (fun j => G (k * 48 + j)) := by
  apply Array.ext
  · simp [forA_size, nodA_size]; omega
  · intro i h1 h2
    have hi : i < 16 := by simpa [nodA_size] using h2
    simp only [Array.getElem_extract, forA, nodA, Array.getElem_ofFn]
    exact fV_lo hi _
theorem forA_tre (G) {k : Nat} (hk : k < 4) : (forA G).extract (k * 48) (k * 48 + 48) = treA (fun j => G (k * 48 + j)) := by
  apply Array.ext
  · simp [forA_size, treA_size]; omega
  · intro i h1 h2
    have hi : i < 48 := by simpa [treA_size] using h2
    simp only [Array.getElem_extract, forA, treA, Array.getElem_ofFn, fV]
    have e : (k * 48 + i) % 48 = i % 48 := by omega
    rw [e]
theorem forA_put (G) (h) {k : Nat} (hk : k < 4) : putA (forA G) (k * 48 + 16) (setA h).toList = forA (ups G (k * 48 + 16) 32 h) := by
  apply Array.ext_getElem?
  intro i
  have hl : (setA h).toList.length = 32 := by simp [setA_size]
  rw [putA_get (by rw [hl, forA_size]; omega), hl]
  by_cases hi : i < 192
  · rw [forA_get _ hi, forA_get _ hi]
    unfold ups
    by_cases e : k * 48 + 16 ≤ i ∧ i < k * 48 + 16 + 32
    · rw [if_pos e, if_pos e, Array.getElem?_toList, setA_get _ (by omega)]
      obtain ⟨j, rfl⟩ : ∃ j, i = k * 48 + 16 + j := ⟨i - (k * 48 + 16), by omega⟩
      rw [fV_hi (by omega)]
    · rw [if_neg e, if_neg e]
  · rw [if_neg (by omega), Array.getElem?_eq_none (by rw [forA_size]; omega), Array.getElem?_eq_none (by rw [forA_size]; omega)]
theorem ld_set (v : Value) : Instr.loadAt 126 v = ldR 126 v := rfl
theorem st_set (p v : Value) : Instr.storeAt 126 p v = stR 126 p v := rfl
theorem u8_or (a b : Nat) (ha : a < 2 ^ 8) (hb : b < 2 ^ 8) : bits .or .u8 (a : Int) (b : Int) = ((a ||| b : Nat) : Int) :=
  (bits_nat .u8 8 (by decide) (fun n h0 h1 => by rw [IntKind.wrap_u8]; omega) a b ha hb).2
def bitOn (h : Nat → Nat) (n : Nat) : Nat → Nat := up h (n / 8) (h (n / 8) ||| 2 ^ (n % 8))
theorem bitOn_lt {h : Nat → Nat} (hh : ∀ j, h j < 256) (n : Nat) : ∀ j, bitOn h n j < 256 := by
  intro j
  unfold bitOn up
  split
  · exact Nat.or_lt_two_pow (n := 8) (hh _) (Nat.pow_lt_pow_right (by decide) (Nat.mod_lt _ (by decide)))
  · exact hh j
attribute [local go_sem ↓] ld_set st_set
set_option maxRecDepth 100000 in
set_option maxHeartbeats 400000 in
theorem with_is (w : World) {h : Nat → Nat} (hh : ∀ j, h j < 256) {n : Nat} (hn : n < 256) : Calls Tryz.prog 48 #[.agg (setA h), .int .i64 n] w fun e w' => e = .returned (.agg (setA (bitOn h n))) ∧ Below w.heap.size w w' := by
  have hsz := setA_size h
  have i0 : (0 : Int) ≤ n := by omega
  have i1 : (n : Int) < 256 := by omega
  have HN := Lib.hid hn
  have HH := Lib.hid hh
  clear hn hh
  obtain ⟨A, hA⟩ : ∃ A, A = setA h := ⟨_, rfl⟩
  rw [← hA] at hsz ⊢
  have HA := Lib.hid hA
  clear hA
  go_enter Tryz.func48, Tryz.ntmps48
  go_upto_region 2 with fail
  obtain ⟨w2, hw2⟩ : ∃ w2, w2 = (w.alloc (.cells A 126)).alloc (.cells #[.int .u8 0, .int .u8 0, .int .u8 0, .int .u8 0, .int .u8 0, .int .u8 0, .int .u8 0, .int .u8 0, .int .u8 0, .int .u8 0, .int .u8 0, .int .u8 0, .int .u8 0, .int .u8 0, .int .u8 0, .int .u8 0, .int .u8 0, .int .u8 0, .int .u8 0, .int .u8 0, .int .u8 0, .int .u8 0, .int .u8 0, .int .u8 0, .int .u8 0, .int .u8 0, .int .u8 0, .int .u8 0, .int .u8 0, .int .u8 0, .int .u8 0, .int .u8 0] 126) := ⟨_, rfl⟩
  rw [← hw2]
  have R1 : Row w2 w.heap.size 126 A := by rw [hw2]; exact (row_new w _ A).alloc _
  have R2 : Row w2 (w.heap.size + 1) 126 #[.int .u8 0, .int .u8 0, .int .u8 0, .int .u8 0, .int .u8 0, .int .u8 0, .int .u8 0, .int .u8 0, .int .u8 0, .int .u8 0, .int .u8 0, .int .u8 0, .int .u8 0, .int .u8 0, .int .u8 0, .int .u8 0, .int .u8 0, .int .u8 0, .int .u8 0, .int .u8 0, .int .u8 0, .int .u8 0, .int .u8 0, .int .u8 0, .int .u8 0, .int .u8 0, .int .u8 0, .int .u8 0, .int .u8 0, .int .u8 0, .int .u8 0, .int .u8 0] := by
    rw [hw2]
    have := row_new (w.alloc (.cells A 126)) 126 #[.int .u8 0, .int .u8 0, .int .u8 0, .int .u8 0, .int .u8 0, .int .u8 0, .int .u8 0, .int .u8 0, .int .u8 0, .int .u8 0, .int .u8 0, .int .u8 0, .int .u8 0, .int .u8 0, .int .u8 0, .int .u8 0, .int .u8 0, .int .u8 0, .int .u8 0, .int .u8 0, .int .u8 0, .int .u8 0, .int .u8 0, .int .u8 0, .int .u8 0, .int .u8 0, .int .u8 0, .int .u8 0, .int .u8 0, .int .u8 0, .int .u8 0, .int .u8 0]
    simpa using this
  have HB : Hid (Below w.heap.size w w2) := Lib.hid (by rw [hw2]; exact ((Below.refl _ _).alloc (Nat.le_refl _) _).alloc (by simp) _)
  clear hw2
  have hn := HN.out
  obtain ⟨q, hq⟩ : ∃ q, q = n / 8 := ⟨_, rfl⟩
  obtain ⟨r, hr⟩ : ∃ r, r = n % 8 := ⟨_, rfl⟩
  have p8 : 2 ^ r < 2 ^ 8 := Nat.pow_lt_pow_right (by decide) (by omega)
  have hx : h q ||| 2 ^ r < 256 := Nat.or_lt_two_pow (n := 8) (HH.out _) (Nat.pow_lt_pow_right (by decide) (by omega))
  have c1 : w2.drew.cell? ⟨w.heap.size, q, none⟩ = some (.int .u8 (h q)) := by
    rw [R1.drew.cell, HA.out, setA_get _ (by omega)]
  have z1 : w2.drew.frozen? ⟨w.heap.size, q, none⟩ = false := R1.drew.fz q
  have e1 : (n : Int).tdiv 8 = q := by rw [Int.tdiv_eq_ediv_of_nonneg (by omega)]; omega
  have e2 : (n : Int) / 8 = q := by omega
  have e3 : (n : Int).tmod 8 = r := by rw [Int.tmod_eq_emod_of_nonneg (by omega)]; omega
  have e4 : (n : Int) % 8 = r := by omega
  have q32 : (q : Int) < 32 := by omega
  have s2 : bits BinOp.or IntKind.u8 (h q : Int) ((2 : Int) ^ r % 256) = ((h q ||| 2 ^ r : Nat) : Int) := by
    rw [← u8_or (h q) (2 ^ r) (HH.out _) p8]
    congr 1
    have e : ((2 ^ r : Nat) : Int) = (2 : Int) ^ r := by push_cast; rfl
    rw [← e]
    clear e
    generalize 2 ^ r = z at *
    omega
  have eB : A.setIfInBounds q (.int .u8 ((h q ||| 2 ^ r : Nat) : Int)) = setA (bitOn h n) := by
    rw [HA.out, setA_up _ (by omega)]
    unfold bitOn
    rw [hq, hr]
  have R3 : Row ((w2.setCell ⟨w.heap.size, q, none⟩ (.int .u8 ((h q ||| 2 ^ r : Nat) : Int))).drew) w.heap.size 126 (setA (bitOn h n)) := by
    rw [R1.setCell, ← eB]
    exact (R1.setRow _).drew
  have R4 : Row ((w2.setCell ⟨w.heap.size, q, none⟩ (.int .u8 ((h q ||| 2 ^ r : Nat) : Int))).drew) (w.heap.size + 1) 126 #[.int .u8 0, .int .u8 0, .int .u8 0, .int .u8 0, .int .u8 0, .int .u8 0, .int .u8 0, .int .u8 0, .int .u8 0, .int .u8 0, .int .u8 0, .int .u8 0, .int .u8 0, .int .u8 0, .int .u8 0, .int .u8 0, .int .u8 0, .int .u8 0, .int .u8 0, .int .u8 0, .int .u8 0, .int .u8 0, .int .u8 0, .int .u8 0, .int .u8 0, .int .u8 0, .int .u8 0, .int .u8 0, .int .u8 0, .int .u8 0, .int .u8 0, .int .u8 0] := by
    rw [R1.setCell]
    exact (R2.setRowO (by omega) _).drew
  have HB3 : Hid (Below w.heap.size w ((w2.setCell ⟨w.heap.size, q, none⟩ (.int .u8 ((h q ||| 2 ^ r : Nat) : Int))).drew)) := Lib.hid (HB.out.setCell (Nat.le_refl _) _).drew
  have HR3 := Lib.hid R3
  have HR4 := Lib.hid R4
  clear hq hr hx p8 R1 R2 R3 R4 hn eB HB
  generalize ((h q ||| 2 ^ r : Nat) : Int) = x3 at *
  go_region
  generalize (w2.setCell ⟨w.heap.size, q, none⟩ (.int .u8 x3)).drew = w3 at *
  have l1 := HR3.out.ld0 Tryz.underlying126 rfl (by rw [setA_size]; kernel_rfl)
  have l2 := HR4.out.st0 (cs := setA (bitOn h n)) (by rw [setA_size]; rfl) (by rw [setA_size]; kernel_rfl) (setA_one _)
  have l3 := (HR4.out.setRow (setA (bitOn h n))).ldV Tryz.underlying126 rfl (by rw [setA_size]; kernel_rfl)
  have HB4 := Lib.hid (HB3.out.trans (Upd.toBelow (Upd.setRow w3 (b := w.heap.size + 1) (setA (bitOn h n)) (S := fun k => k = w.heap.size + 1) rfl) HB3.out.size (by omega)))
  generalize w3.setRow (w.heap.size + 1) (setA (bitOn h n)) = w4 at *
  generalize hBq : setA (bitOn h n) = B at *
  have HBq := Lib.hid hBq
  clear hBq
  go_wp2_with fail
  exact bodyPost_ret (v := .agg B) (by rw [results_cell1 rfl]; simp [asAddr, Result.andThen, l3]) rfl ⟨by rw [HBq.out], HB4.out⟩
end Go.Proofs.YtdkbmkapnapahaaGreatDoor
