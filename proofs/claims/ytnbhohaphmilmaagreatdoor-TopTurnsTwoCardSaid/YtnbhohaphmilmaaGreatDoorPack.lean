/- The forest of trees of nodes: its cells; the walk of bits.With. The walks of snap: There, Right. The walk of snap.Pack. -/
import Derived.Test.YtnbhohaphmilmaaGreatDoorBegin
import Derived.Test.YtnbhohaphmilmaaGreatDoorCodeRow
import Derived.Test.YtnbhohaphmilmaaGreatDoorTpA
namespace Go.Proofs.YtnbhohaphmilmaaGreatDoor
open Go.RowKit
set_option linter.unusedVariables false
set_option linter.unusedSimpArgs false
def fV (j x : Nat) : Value := if j % 48 < 16 then .int .i64 x else .int .u8 x
def forA (G : Nat → Nat) : Array Value := Array.ofFn (n := 192) (fun j => fV j.val (G j.val))
def treA (G : Nat → Nat) : Array Value := Array.ofFn (n := 48) (fun j => fV j.val (G j.val))
def setA (h : Nat → Nat) : Array Value := Array.ofFn (n := 32) (fun j => .int .u8 (h j.val))
def nodA (h : Nat → Nat) : Array Value := Array.ofFn (n := 16) (fun j => .int .i64 (h j.val))
theorem forA_size (G) : (forA G).size = 192 := by simp [forA]
theorem treA_size (G) : (treA G).size = 48 := by simp [treA]
theorem setA_size (G) : (setA G).size = 32 := by simp [setA]
theorem nodA_size (G) : (nodA G).size = 16 := by simp [nodA]
theorem forA_get (G) {j : Nat} (h : j < 192) : (forA G)[j]? = some (fV j (G j)) := by simp [forA, h]
theorem treA_get (G) {j : Nat} (h : j < 48) : (treA G)[j]? = some (fV j (G j)) := by simp [treA, h]
theorem setA_get (G) {j : Nat} (h : j < 32) : (setA G)[j]? = some (.int .u8 (G j)) := by simp [setA, h]
theorem nodA_get (G) {j : Nat} (h : j < 16) : (nodA G)[j]? = some (.int .i64 (G j)) := by simp [nodA, h]
theorem fV_one (j x : Nat) : (fV j x).oneCell' = true := by unfold fV; split <;> rfl
theorem setA_one (G) : (setA G).all (·.oneCell') = true := by
  rw [Array.all_eq_true]
  intro i hi
  simp [setA, Value.oneCell']
theorem forA_one (G) : (forA G).all (·.oneCell') = true := by
  rw [Array.all_eq_true]
  intro i hi
  simp only [forA, Array.getElem_ofFn]
  exact fV_one _ _
theorem fV_lo {k i : Nat} (hi : i < 16) (x : Nat) : fV (k * 48 + i) x = .int .i64 x := by unfold fV; rw [if_pos (by omega)]
theorem fV_hi {k i : Nat} (h1 : i < 32) (x : Nat) : fV (k * 48 + 16 + i) x = .int .u8 x := by unfold fV; rw [if_neg (by omega)]
/-- G with x at j -/
def up (G : Nat → Nat) (j x : Nat) : Nat → Nat := fun i => if i = j then x else G i
/-- G with n of h from o on -/
def ups (G : Nat → Nat) (o n : Nat) (h : Nat → Nat) : Nat → Nat := fun i => if o ≤ i ∧ i < o + n then h (i - o) else G i
theorem forA_ext {G H : Nat → Nat} (h : ∀ j, j < 192 → G j = H j) : forA G = forA H := by
  apply Array.ext
  · simp [forA_size]
  · intro i h1 h2
    simp only [forA, Array.getElem_ofFn]
    rw [h i (by simpa [forA_size] using h1)]
theorem setA_ext {G H : Nat → Nat} (h : ∀ j, j < 32 → G j = H j) : setA G = setA H := by
  apply Array.ext
  · simp [setA_size]
  · intro i h1 h2
    simp only [setA, Array.getElem_ofFn]
    rw [h i (by simpa [setA_size] using h1)]
theorem forA_up (G) {j x : Nat} (h : j < 192) : (forA G).setIfInBounds j (fV j x) = forA (up G j x) := by
  apply Array.ext_getElem?
  intro i
  rw [Array.getElem?_setIfInBounds]
  by_cases hi : i < 192
  · rw [forA_get _ hi, forA_get _ hi]
    unfold up
    by_cases e : i = j
    · subst e; rw [if_pos rfl, if_pos rfl, if_pos (by rw [forA_size]; exact h)]
    · rw [if_neg (fun q => e q.symm), if_neg e]
  · rw [if_neg (by omega), Array.getElem?_eq_none (by rw [forA_size]; omega), Array.getElem?_eq_none (by rw [forA_size]; omega)]
theorem setA_up (G) {j x : Nat} (h : j < 32) : (setA G).setIfInBounds j (.int .u8 x) = setA (up G j x) := by
  apply Array.ext_getElem?
  intro i
  rw [Array.getElem?_setIfInBounds]
  by_cases hi : i < 32
  · rw [setA_get _ hi, setA_get _ hi]
    unfold up
    by_cases e : i = j
    · subst e; rw [if_pos rfl, if_pos rfl, if_pos (by rw [setA_size]; exact h)]
    · rw [if_neg (fun q => e q.symm), if_neg e]
  · rw [if_neg (by omega), Array.getElem?_eq_none (by rw [setA_size]; omega), Array.getElem?_eq_none (by rw [setA_size]; omega)]
theorem forA_set (G) {k : Nat} (hk : k < 4) : (forA G).extract (k * 48 + 16) (k * 48 + 16 + 32) = setA (fun j => G (k * 48 + 16 + j)) := by
  apply Array.ext
  · simp [forA_size, setA_size]; omega
  · intro i h1 h2
    have hi : i < 32 := by simpa [setA_size] using h2
    simp only [Array.getElem_extract, forA, setA, Array.getElem_ofFn]
    exact fV_hi hi _
theorem forA_nod (G) {k : Nat} (hk : k < 4) : (forA G).extract (k * 48) (k * 48 + 16) = nodA (fun j => G (k * 48 + j)) := by
  apply Array.ext
  · simp [forA_size, nodA_size]; omega
  · intro i h1 h2
    have hi : i < 16 := by simpa [nodA_size] using h2
    simp only [Array.getElem_extract, forA, nodA, Array.getElem_ofFn]
    exact fV_lo hi _
theorem forA_tre (G) {k : Nat} (hk : k < 4) : (forA G).extract (k * 48) (k * 48 + 48) = treA (fun j => G (k * 48 + j)) := by
  apply Array.ext
  · simp [forA_size, treA_size]; omega
  · intro i h1 h2
    have hi : i < 48 := by simpa [treA_size] using h2
    simp only [Array.getElem_extract, forA, treA, Array.getElem_ofFn, fV]
    have e : (k * 48 + i) % 48 = i % 48 := by omega
    rw [e]
theorem forA_put (G) (h) {k : Nat} (hk : k < 4) : putA (forA G) (k * 48 + 16) (setA h).toList = forA (ups G (k * 48 + 16) 32 h) := by
  apply Array.ext_getElem?
  intro i
  have hl : (setA h).toList.length = 32 := by simp [setA_size]
  rw [putA_get (by rw [hl, forA_size]; omega), hl]
  by_cases hi : i < 192
  · rw [forA_get _ hi, forA_get _ hi]
    unfold ups
    by_cases e : k * 48 + 16 ≤ i ∧ i < k * 48 + 16 + 32
    · rw [if_pos e, if_pos e, Array.getElem?_toList, setA_get _ (by omega)]
      obtain ⟨j, rfl⟩ : ∃ j, i = k * 48 + 16 + j := ⟨i - (k * 48 + 16), by omega⟩
      rw [fV_hi (by omega)]
    · rw [if_neg e, if_neg e]
  · rw [if_neg (by omega), Array.getElem?_eq_none (by rw [forA_size]; omega), Array.getElem?_eq_none (by rw [forA_size]; omega)]
theorem ld_set (v : Value) : Instr.loadAt 144 v = ldR 144 v := rfl
theorem st_set (p v : Value) : Instr.storeAt 144 p v = stR 144 p v := rfl
theorem u8_or (a b : Nat) (ha : a < 2 ^ 8) (hb : b < 2 ^ 8) : bits .or .u8 (a : Int) (b : Int) = ((a ||| b : Nat) : Int) :=
  (bits_nat .u8 8 (by decide) (fun n h0 h1 => by rw [IntKind.wrap_u8]; omega) a b ha hb).2
def bitOn (h : Nat → Nat) (n : Nat) : Nat → Nat := up h (n / 8) (h (n / 8) ||| 2 ^ (n % 8))
theorem bitOn_lt {h : Nat → Nat} (hh : ∀ j, h j < 256) (n : Nat) : ∀ j, bitOn h n j < 256 := by
  intro j
  unfold bitOn up
  split
  · exact Nat.or_lt_two_pow (n := 8) (hh _) (Nat.pow_lt_pow_right (by decide) (Nat.mod_lt _ (by decide)))
  · exact hh j
attribute [local go_sem ↓] ld_set st_set
set_option maxRecDepth 100000 in
set_option maxHeartbeats 400000 in
theorem with_is (w : World) {h : Nat → Nat} (hh : ∀ j, h j < 256) {n : Nat} (hn : n < 256) : Calls Tryz.prog 56 #[.agg (setA h), .int .i64 n] w fun e w' => e = .returned (.agg (setA (bitOn h n))) ∧ Below w.heap.size w w' := by
  have hsz := setA_size h
  have i0 : (0 : Int) ≤ n := by omega
  have i1 : (n : Int) < 256 := by omega
  have HN := Lib.hid hn
  have HH := Lib.hid hh
  clear hn hh
  obtain ⟨A, hA⟩ : ∃ A, A = setA h := ⟨_, rfl⟩
  rw [← hA] at hsz ⊢
  have HA := Lib.hid hA
  clear hA
  go_enter Tryz.func56, Tryz.ntmps56
  go_upto_region 2 with fail
  obtain ⟨w2, hw2⟩ : ∃ w2, w2 = (w.alloc (.cells A 144)).alloc (.cells #[.int .u8 0, .int .u8 0, .int .u8 0, .int .u8 0, .int .u8 0, .int .u8 0, .int .u8 0, .int .u8 0, .int .u8 0, .int .u8 0, .int .u8 0, .int .u8 0, .int .u8 0, .int .u8 0, .int .u8 0, .int .u8 0, .int .u8 0, .int .u8 0, .int .u8 0, .int .u8 0, .int .u8 0, .int .u8 0, .int .u8 0, .int .u8 0, .int .u8 0, .int .u8 0, .int .u8 0, .int .u8 0, .int .u8 0, .int .u8 0, .int .u8 0, .int .u8 0] 144) := ⟨_, rfl⟩
  rw [← hw2]
  have R1 : Row w2 w.heap.size 144 A := by rw [hw2]; exact (row_new w _ A).alloc _
  have R2 : Row w2 (w.heap.size + 1) 144 #[.int .u8 0, .int .u8 0, .int .u8 0, .int .u8 0, .int .u8 0, .int .u8 0, .int .u8 0, .int .u8 0, .int .u8 0, .int .u8 0, .int .u8 0, .int .u8 0, .int .u8 0, .int .u8 0, .int .u8 0, .int .u8 0, .int .u8 0, .int .u8 0, .int .u8 0, .int .u8 0, .int .u8 0, .int .u8 0, .int .u8 0, .int .u8 0, .int .u8 0, .int .u8 0, .int .u8 0, .int .u8 0, .int .u8 0, .int .u8 0, .int .u8 0, .int .u8 0] := by
    rw [hw2]
    have := row_new (w.alloc (.cells A 144)) 144 #[.int .u8 0, .int .u8 0, .int .u8 0, .int .u8 0, .int .u8 0, .int .u8 0, .int .u8 0, .int .u8 0, .int .u8 0, .int .u8 0, .int .u8 0, .int .u8 0, .int .u8 0, .int .u8 0, .int .u8 0, .int .u8 0, .int .u8 0, .int .u8 0, .int .u8 0, .int .u8 0, .int .u8 0, .int .u8 0, .int .u8 0, .int .u8 0, .int .u8 0, .int .u8 0, .int .u8 0, .int .u8 0, .int .u8 0, .int .u8 0, .int .u8 0, .int .u8 0]
    simpa using this
  have HB : Hid (Below w.heap.size w w2) := Lib.hid (by rw [hw2]; exact ((Below.refl _ _).alloc (Nat.le_refl _) _).alloc (by simp) _)
  clear hw2
  have hn := HN.out
  obtain ⟨q, hq⟩ : ∃ q, q = n / 8 := ⟨_, rfl⟩
  obtain ⟨r, hr⟩ : ∃ r, r = n % 8 := ⟨_, rfl⟩
  have p8 : 2 ^ r < 2 ^ 8 := Nat.pow_lt_pow_right (by decide) (by omega)
  have hx : h q ||| 2 ^ r < 256 := Nat.or_lt_two_pow (n := 8) (HH.out _) (Nat.pow_lt_pow_right (by decide) (by omega))
  have c1 : w2.drew.cell? ⟨w.heap.size, q, none⟩ = some (.int .u8 (h q)) := by
    rw [R1.drew.cell, HA.out, setA_get _ (by omega)]
  have z1 : w2.drew.frozen? ⟨w.heap.size, q, none⟩ = false := R1.drew.fz q
  have e1 : (n : Int).tdiv 8 = q := by rw [Int.tdiv_eq_ediv_of_nonneg (by omega)]; omega
  have e2 : (n : Int) / 8 = q := by omega
  have e3 : (n : Int).tmod 8 = r := by rw [Int.tmod_eq_emod_of_nonneg (by omega)]; omega
  have e4 : (n : Int) % 8 = r := by omega
  have q32 : (q : Int) < 32 := by omega
  have s2 : bits BinOp.or IntKind.u8 (h q : Int) ((2 : Int) ^ r % 256) = ((h q ||| 2 ^ r : Nat) : Int) := by
    rw [← u8_or (h q) (2 ^ r) (HH.out _) p8]
    congr 1
    have e : ((2 ^ r : Nat) : Int) = (2 : Int) ^ r := by push_cast; rfl
    rw [← e]
    clear e
    generalize 2 ^ r = z at *
    omega
  have eB : A.setIfInBounds q (.int .u8 ((h q ||| 2 ^ r : Nat) : Int)) = setA (bitOn h n) := by
    rw [HA.out, setA_up _ (by omega)]
    unfold bitOn
    rw [hq, hr]
  have R3 : Row ((w2.setCell ⟨w.heap.size, q, none⟩ (.int .u8 ((h q ||| 2 ^ r : Nat) : Int))).drew) w.heap.size 144 (setA (bitOn h n)) := by
    rw [R1.setCell, ← eB]
    exact (R1.setRow _).drew
  have R4 : Row ((w2.setCell ⟨w.heap.size, q, none⟩ (.int .u8 ((h q ||| 2 ^ r : Nat) : Int))).drew) (w.heap.size + 1) 144 #[.int .u8 0, .int .u8 0, .int .u8 0, .int .u8 0, .int .u8 0, .int .u8 0, .int .u8 0, .int .u8 0, .int .u8 0, .int .u8 0, .int .u8 0, .int .u8 0, .int .u8 0, .int .u8 0, .int .u8 0, .int .u8 0, .int .u8 0, .int .u8 0, .int .u8 0, .int .u8 0, .int .u8 0, .int .u8 0, .int .u8 0, .int .u8 0, .int .u8 0, .int .u8 0, .int .u8 0, .int .u8 0, .int .u8 0, .int .u8 0, .int .u8 0, .int .u8 0] := by
    rw [R1.setCell]
    exact (R2.setRowO (by omega) _).drew
  have HB3 : Hid (Below w.heap.size w ((w2.setCell ⟨w.heap.size, q, none⟩ (.int .u8 ((h q ||| 2 ^ r : Nat) : Int))).drew)) := Lib.hid (HB.out.setCell (Nat.le_refl _) _).drew
  have HR3 := Lib.hid R3
  have HR4 := Lib.hid R4
  clear hq hr hx p8 R1 R2 R3 R4 hn eB HB
  generalize ((h q ||| 2 ^ r : Nat) : Int) = x3 at *
  go_region
  generalize (w2.setCell ⟨w.heap.size, q, none⟩ (.int .u8 x3)).drew = w3 at *
  have l1 := HR3.out.ld0 Tryz.underlying144 rfl (by rw [setA_size]; kernel_rfl)
  have l2 := HR4.out.st0 (cs := setA (bitOn h n)) (by rw [setA_size]; rfl) (by rw [setA_size]; kernel_rfl) (setA_one _)
  have l3 := (HR4.out.setRow (setA (bitOn h n))).ldV Tryz.underlying144 rfl (by rw [setA_size]; kernel_rfl)
  have HB4 := Lib.hid (HB3.out.trans (Upd.toBelow (Upd.setRow w3 (b := w.heap.size + 1) (setA (bitOn h n)) (S := fun k => k = w.heap.size + 1) rfl) HB3.out.size (by omega)))
  generalize w3.setRow (w.heap.size + 1) (setA (bitOn h n)) = w4 at *
  generalize hBq : setA (bitOn h n) = B at *
  have HBq := Lib.hid hBq
  clear hBq
  go_wp2_with fail
  exact bodyPost_ret (v := .agg B) (by rw [results_cell1 rfl]; simp [asAddr, Result.andThen, l3]) rfl ⟨by rw [HBq.out], HB4.out⟩
end Go.Proofs.YtnbhohaphmilmaaGreatDoor
namespace Go.Proofs.YtnbhohaphmilmaaGreatDoor
open Go.RowKit
set_option linter.unusedVariables false
set_option linter.unusedSimpArgs false
theorem ld_for (v : Value) : Instr.loadAt 148 v = ldR 148 v := rfl
theorem st_for (p v : Value) : Instr.storeAt 148 p v = stR 148 p v := rfl
theorem ld_tre (v : Value) : Instr.loadAt 146 v = ldR 146 v := rfl
theorem ld_nod (v : Value) : Instr.loadAt 74 v = ldR 74 v := rfl
theorem ix_nod (v i : Value) : Instr.index 74 v i = ixR 74 v i := rfl
attribute [local go_sem ↓] ld_set st_set ld_for st_for ld_tre ld_nod ix_nod
set_option maxRecDepth 100000 in
set_option maxHeartbeats 400000 in
theorem there_is (w : World) {G : Nat → Nat} {k : Nat} (hk : k < 4) {b : Bool} (hb : b = !(G (k * 48) == 0)) : Calls Tryz.prog 120 #[.agg (forA G), .int .i64 k] w fun e w' => e = .returned (.bool b) ∧ Below w.heap.size w w' := by
  have hsz := forA_size G
  have i0 : (0 : Int) ≤ k := by omega
  have i1 : (k : Int) < 4 := by omega
  have i2 : (k : Int) * 48 < 192 := by omega
  have R1 : Row (w.alloc (.cells (forA G) 148)) w.heap.size 148 (forA G) := row_new w _ _
  have HB := Lib.hid (Go.Joins.below_alloc1 w (.cells (forA G) 148))
  have hc : (w.alloc (.cells (forA G) 148)).cell? ⟨w.heap.size, k * 48, none⟩ = some (.int .i64 (G (k * 48))) := by
    rw [R1.cell, forA_get _ (by omega)]
    have := fV_lo (k := k) (i := 0) (by decide) (G (k * 48))
    simpa using this
  have hA : (forA G)[k * 48]? = some (.int .i64 (G (k * 48))) := by rw [← R1.cell]; exact hc
  generalize forA G = A at *
  generalize G (k * 48) = g at *
  have hg : ((g : Int) != 0) = b := by
    rw [hb]
    have e : (g : Int) = 0 ↔ g = 0 := by omega
    by_cases h0 : g = 0
    · subst h0; rfl
    · rw [bne_iff_ne.2 (fun q => h0 (e.1 q)), beq_eq_false_iff_ne.2 h0]; rfl
  clear hb R1 hk
  go_enter Tryz.func120, Tryz.ntmps120
  go_wp2_with fail
  go_ret
  exact ⟨rfl, HB.out⟩
theorem ix0_is (w : World) (h : Nat → Nat) : (ixR 74 (.agg (nodA h)) (.int .i64 0)).run Tryz.prog w = .ok (.int .i64 (h 0)) w := by kernel_rfl
theorem ix1_is (w : World) (h : Nat → Nat) : (ixR 74 (.agg (nodA h)) (.int .i64 1)).run Tryz.prog w = .ok (.int .i64 (h 1)) w := by kernel_rfl
theorem ix2_is (w : World) (h : Nat → Nat) : (ixR 74 (.agg (nodA h)) (.int .i64 2)).run Tryz.prog w = .ok (.int .i64 (h 2)) w := by kernel_rfl
theorem ix3_is (w : World) (h : Nat → Nat) : (ixR 74 (.agg (nodA h)) (.int .i64 3)).run Tryz.prog w = .ok (.int .i64 (h 3)) w := by kernel_rfl
theorem ix4_is (w : World) (h : Nat → Nat) : (ixR 74 (.agg (nodA h)) (.int .i64 4)).run Tryz.prog w = .ok (.int .i64 (h 4)) w := by kernel_rfl
theorem ix5_is (w : World) (h : Nat → Nat) : (ixR 74 (.agg (nodA h)) (.int .i64 5)).run Tryz.prog w = .ok (.int .i64 (h 5)) w := by kernel_rfl
theorem ix6_is (w : World) (h : Nat → Nat) : (ixR 74 (.agg (nodA h)) (.int .i64 6)).run Tryz.prog w = .ok (.int .i64 (h 6)) w := by kernel_rfl
theorem ix7_is (w : World) (h : Nat → Nat) : (ixR 74 (.agg (nodA h)) (.int .i64 7)).run Tryz.prog w = .ok (.int .i64 (h 7)) w := by kernel_rfl
theorem ix8_is (w : World) (h : Nat → Nat) : (ixR 74 (.agg (nodA h)) (.int .i64 8)).run Tryz.prog w = .ok (.int .i64 (h 8)) w := by kernel_rfl
theorem ix9_is (w : World) (h : Nat → Nat) : (ixR 74 (.agg (nodA h)) (.int .i64 9)).run Tryz.prog w = .ok (.int .i64 (h 9)) w := by kernel_rfl
theorem ix10_is (w : World) (h : Nat → Nat) : (ixR 74 (.agg (nodA h)) (.int .i64 10)).run Tryz.prog w = .ok (.int .i64 (h 10)) w := by kernel_rfl
theorem ix11_is (w : World) (h : Nat → Nat) : (ixR 74 (.agg (nodA h)) (.int .i64 11)).run Tryz.prog w = .ok (.int .i64 (h 11)) w := by kernel_rfl
theorem ix12_is (w : World) (h : Nat → Nat) : (ixR 74 (.agg (nodA h)) (.int .i64 12)).run Tryz.prog w = .ok (.int .i64 (h 12)) w := by kernel_rfl
theorem ix13_is (w : World) (h : Nat → Nat) : (ixR 74 (.agg (nodA h)) (.int .i64 13)).run Tryz.prog w = .ok (.int .i64 (h 13)) w := by kernel_rfl
theorem ix14_is (w : World) (h : Nat → Nat) : (ixR 74 (.agg (nodA h)) (.int .i64 14)).run Tryz.prog w = .ok (.int .i64 (h 14)) w := by kernel_rfl
theorem ix15_is (w : World) (h : Nat → Nat) : (ixR 74 (.agg (nodA h)) (.int .i64 15)).run Tryz.prog w = .ok (.int .i64 (h 15)) w := by kernel_rfl
theorem ix_is (w : World) (h : Nat → Nat) {i : Nat} (hi : i < 16) : (ixR 74 (.agg (nodA h)) (.int .i64 i)).run Tryz.prog w = .ok (.int .i64 (h i)) w := by
  have : i = 0 ∨ i = 1 ∨ i = 2 ∨ i = 3 ∨ i = 4 ∨ i = 5 ∨ i = 6 ∨ i = 7 ∨ i = 8 ∨ i = 9 ∨ i = 10 ∨ i = 11 ∨ i = 12 ∨ i = 13 ∨ i = 14 ∨ i = 15 := by omega
  rcases this with rfl | rfl | rfl | rfl | rfl | rfl | rfl | rfl | rfl | rfl | rfl | rfl | rfl | rfl | rfl | rfl
  · exact ix0_is w h
  · exact ix1_is w h
  · exact ix2_is w h
  · exact ix3_is w h
  · exact ix4_is w h
  · exact ix5_is w h
  · exact ix6_is w h
  · exact ix7_is w h
  · exact ix8_is w h
  · exact ix9_is w h
  · exact ix10_is w h
  · exact ix11_is w h
  · exact ix12_is w h
  · exact ix13_is w h
  · exact ix14_is w h
  · exact ix15_is w h
theorem tree0 : treA (fun _ => 0) = #[.int .i64 0, .int .i64 0, .int .i64 0, .int .i64 0, .int .i64 0, .int .i64 0, .int .i64 0, .int .i64 0, .int .i64 0, .int .i64 0, .int .i64 0, .int .i64 0, .int .i64 0, .int .i64 0, .int .i64 0, .int .i64 0, .int .u8 0, .int .u8 0, .int .u8 0, .int .u8 0, .int .u8 0, .int .u8 0, .int .u8 0, .int .u8 0, .int .u8 0, .int .u8 0, .int .u8 0, .int .u8 0, .int .u8 0, .int .u8 0, .int .u8 0, .int .u8 0, .int .u8 0, .int .u8 0, .int .u8 0, .int .u8 0, .int .u8 0, .int .u8 0, .int .u8 0, .int .u8 0, .int .u8 0, .int .u8 0, .int .u8 0, .int .u8 0, .int .u8 0, .int .u8 0, .int .u8 0, .int .u8 0] := by kernel_rfl
theorem tree_eq1 (w : World) : (Op.equalIn 9999 74 (.agg ((treA (fun _ => 0)).extract 0 16)) (.agg #[.int .i64 0, .int .i64 0, .int .i64 0, .int .i64 0, .int .i64 0, .int .i64 0, .int .i64 0, .int .i64 0, .int .i64 0, .int .i64 0, .int .i64 0, .int .i64 0, .int .i64 0, .int .i64 0, .int .i64 0, .int .i64 0])).run Tryz.prog w = .ok true w := by kernel_rfl
theorem tree_eq2 (w : World) : (Op.equalIn 9999 144 (.agg ((treA (fun _ => 0)).extract 16 48)) (.agg #[.int .u8 0, .int .u8 0, .int .u8 0, .int .u8 0, .int .u8 0, .int .u8 0, .int .u8 0, .int .u8 0, .int .u8 0, .int .u8 0, .int .u8 0, .int .u8 0, .int .u8 0, .int .u8 0, .int .u8 0, .int .u8 0, .int .u8 0, .int .u8 0, .int .u8 0, .int .u8 0, .int .u8 0, .int .u8 0, .int .u8 0, .int .u8 0, .int .u8 0, .int .u8 0, .int .u8 0, .int .u8 0, .int .u8 0, .int .u8 0, .int .u8 0, .int .u8 0])).run Tryz.prog w = .ok true w := by kernel_rfl
/-- a forest that is right -/
structure FR (G : Nat → Nat) : Prop where
  lt : ∀ k i, k < 4 → i < 16 → G (k * 48 + i) < 256
  tr : ∀ k, k < 4 → G (k * 48) = 0 → treA (fun j => G (k * 48 + j)) = treA (fun _ => 0)
theorem tre_ld {w : World} {b : Nat} {A : Array Value} {G : Nat → Nat} (hr : Row w b 148 A) (hA : A = forA G) {k : Nat} (hk : k < 4) (ht : treA (fun j => G (k * 48 + j)) = treA (fun _ => 0)) :
    (ldR 146 (.pointer (some ⟨b, k * 48, none⟩))).run Tryz.prog w = .ok (.agg (treA (fun _ => 0))) w := by
  have hs : A.size = 192 := by rw [hA, forA_size]
  rw [hr.ld (o := k * 48) (n := 48) (by omega) Tryz.underlying146 rfl (by kernel_rfl), hA, forA_tre G hk, ht]
set_option maxRecDepth 100000 in
set_option maxHeartbeats 400000 in
theorem right_is (w : World) {G : Nat → Nat} (hG : FR G) : Calls Tryz.prog 115 #[.agg (forA G)] w fun e w' => e = .returned (.int .i64 0) ∧ Below w.heap.size w w' := by
  have HG := Lib.hid hG
  have HR0 : Hid (Row (w.alloc (.cells (forA G) 148)) w.heap.size 148 (forA G)) := Lib.hid (row_new w _ _)
  have HB := Lib.hid (Go.Joins.below_alloc1 w (.cells (forA G) 148))
  have HA := Lib.hid (forA_size G)
  clear hG
  obtain ⟨A, hA⟩ : ∃ A, A = forA G := ⟨_, rfl⟩
  rw [← hA] at HR0 HB HA ⊢
  have HAE := Lib.hid hA
  clear hA
  go_enter Tryz.func115, Tryz.ntmps115
  go_upto_region 1 with fail
  generalize w.alloc (.cells A 148) = w0 at *
  go_wp2_with fail
  go_loopw [6] (fun kv wr => ∃ k, k ≤ 4 ∧ kv = .int .i64 (k : Nat) ∧ Hid (Below w.heap.size w wr) ∧ Hid (Row wr w.heap.size 148 A)) (fun kv _ => 4 - (intOf kv).toNat)
  case atStart => exact ⟨0, by omega, rfl, HB, HR0⟩
  case round =>
    clear HB HR0
    obtain ⟨k, hk0, rfl, HB, HR⟩ := hrel
    by_cases hk : k < 4
    · have i0 : (0 : Int) ≤ k := by omega
      have i1 : (k : Int) < 4 := by omega
      have l1 : (ldR 74 (.pointer (some ⟨w.heap.size, k * 48, none⟩))).run Tryz.prog wr = .ok (.agg (nodA (fun j => G (k * 48 + j)))) wr := by
        rw [HR.out.ld (o := k * 48) (n := 16) (by rw [HA.out]; omega) Tryz.underlying74 rfl (by kernel_rfl), HAE.out, forA_nod G hk]
      have HIX := Lib.hid (show ∀ i : Nat, i < 16 → (ixR 74 (.agg (nodA (fun j => G (k * 48 + j)))) (.int .i64 i)).run Tryz.prog wr = .ok (.int .i64 (G (k * 48 + i))) wr from fun i hi => ix_is wr (fun j => G (k * 48 + j)) hi)
      generalize nodA (fun j => G (k * 48 + j)) = N at *
      go_wp2_with fail
      go_loop [13] (fun iv => ∃ i, i ≤ 16 ∧ iv = .int .i64 (i : Nat)) (fun iv => 16 - (intOf iv).toNat)
      case atStart => exact ⟨0, by omega, rfl⟩
      case round =>
        obtain ⟨i, hi0, rfl⟩ := hrel
        by_cases hi : i < 16
        · have j0 : (0 : Int) ≤ i := by omega
          have j1 : (i : Int) < 16 := by omega
          have hx := HIX.out i hi
          have hb := HG.out.lt k i hk hi
          generalize G (k * 48 + i) = g at *
          have g0 : ¬ (g : Int) < 0 := by omega
          have g1 : ¬ (256 : Int) ≤ g := by omega
          clear hb
          go_wp2_with fail
          go_round
          case rel => exact ⟨i + 1, by omega, by go_num⟩
          case measure => simp [intOf]; omega
        · obtain rfl : i = 16 := by omega
          have l2 : (ldR 148 (.pointer (some ⟨w.heap.size, 0, none⟩))).run Tryz.prog wr = .ok (.agg A) wr := HR.out.ld0 Tryz.underlying148 rfl (by rw [HA.out]; kernel_rfl)
          clear HIX l1
          by_cases hz : G (k * 48) = 0
          · have HT := Lib.hid (there_is wr (G := G) hk (b := false) (by rw [hz]; rfl))
            rw [← HAE.out] at HT
            have HZ := Lib.hid hz
            clear hz
            go_upto_region 11 with (go_at_call 120; refine HT.out.mono ?_; rintro e2 w2 ⟨rfl, hb2⟩; have HR2 := Lib.hid (HR.out.keep hb2); have HB2 := Lib.hid (HB.out.trans (hb2.mono HB.out.size)); have l3 := tre_ld HR2.out HAE.out hk (HG.out.tr k hk HZ.out); have l4 := tree_eq1 w2; have l5 := tree_eq2 w2;  clear hb2; generalize treA (fun _ => 0) = T0 at *)
            go_wp2_with fail
            go_roundw
            case rel => exact ⟨k + 1, by omega, by go_num, HB2, HR2⟩
            case measure => simp [intOf]; omega
          · have HT := Lib.hid (there_is wr (G := G) hk (b := true) (by rw [beq_eq_false_iff_ne.2 hz]; rfl))
            rw [← HAE.out] at HT
            clear hz
            go_upto_region 11 with (go_at_call 120; refine HT.out.mono ?_; rintro e2 w2 ⟨rfl, hb2⟩; have HR2 := Lib.hid (HR.out.keep hb2); have HB2 := Lib.hid (HB.out.trans (hb2.mono HB.out.size)); clear hb2)
            go_wp2_with fail
            go_roundw
            case rel => exact ⟨k + 1, by omega, by go_num, HB2, HR2⟩
            case measure => simp [intOf]; omega
    · obtain rfl : k = 4 := by omega
      go_wp2_with fail
      go_ret
      exact ⟨rfl, HB.out⟩
end Go.Proofs.YtnbhohaphmilmaaGreatDoor
namespace Go.Proofs.YtnbhohaphmilmaaGreatDoor
open Go.RowKit
set_option linter.unusedVariables false
set_option linter.unusedSimpArgs false
/-- the first c bytes of the nodes' sectors -/
def pkN (G : Nat → Nat) (c : Nat) : List Int := (List.range c).map (fun t => ((G (t / 16 * 48 + t % 16) : Nat) : Int))
/-- what k trees have -/
def pkS (G : Nat → Nat) (k : Nat) : List Int := pkN G 64 ++ (List.range (k * 32)).map (fun t => ((G (t / 32 * 48 + 16 + t % 32) : Nat) : Int))
theorem pkN_len (G c) : (pkN G c).length = c := by simp [pkN]
theorem pkS_len (G k) : (pkS G k).length = 64 + k * 32 := by simp [pkS, pkN]
theorem pkN_next (G : Nat → Nat) {k i : Nat} (hi : i < 16) : pkN G (k * 16 + i + 1) = pkN G (k * 16 + i) ++ [((G (k * 48 + i) : Nat) : Int)] := by
  unfold pkN
  rw [List.range_succ, List.map_append, List.map_cons, List.map_nil]
  congr 3
  have e1 : (k * 16 + i) / 16 = k := by omega
  have e2 : (k * 16 + i) % 16 = i := by omega
  rw [e1, e2]
def setL (G : Nat → Nat) (k : Nat) : List Int := (List.range 32).map (fun j => ((G (k * 48 + 16 + j) : Nat) : Int))
theorem setL_len (G k) : (setL G k).length = 32 := by simp [setL]
theorem pkS_next (G : Nat → Nat) (k : Nat) : pkS G (k + 1) = pkS G k ++ setL G k := by
  unfold pkS setL
  rw [List.append_assoc]
  congr 1
  apply List.ext_getElem
  · simp; omega
  · intro i h1 h2
    simp only [List.length_map, List.length_range] at h1
    rw [List.getElem_map, List.getElem_range]
    by_cases hi : i < k * 32
    · rw [List.getElem_append_left (by simpa using hi), List.getElem_map, List.getElem_range]
    · rw [List.getElem_append_right (by simpa using hi), List.getElem_map, List.getElem_range]
      simp only [List.length_map, List.length_range]
      have e1 : i / 32 = k := by omega
      have e2 : i % 32 = i - k * 32 := by omega
      rw [e1, e2]
theorem set_cells {w : World} {b : Nat} {A : Array Value} {G : Nat → Nat} (hr : Row w b 148 A) (hA : A = forA G) {k : Nat} (hk : k < 4) : ∀ j u, ((setL G k).map u8V)[j]? = some u → w.cell? ((⟨b, k * 48 + 16, none⟩ : Addr).add j) = some u := by
  refine cells_u8 fun i hi => ?_
  rw [setL_len] at hi
  rw [hr.cell, hA, forA_get _ (by omega), fV_hi hi]
  simp [setL, List.getD, hi]
attribute [local go_sem ↓] ld_set st_set ld_for st_for ld_tre ld_nod ix_nod appB_eq
set_option maxRecDepth 100000 in
set_option maxHeartbeats 1000000 in
theorem pack_is (w : World) {G : Nat → Nat} (hG : FR G) : Calls Tryz.prog 57 #[.agg (forA G)] w fun e w' => ∃ v, e = .returned (.tuple #[v, .int .i64 0]) ∧ OB w.heap.size w' v (pkS G 4) ∧ Below w.heap.size w w' := by
  have HG := Lib.hid hG
  have HR0 : Hid (Row (w.alloc (.cells (forA G) 148)) w.heap.size 148 (forA G)) := Lib.hid (row_new w _ _)
  have HB := Lib.hid (Go.Joins.below_alloc1 w (.cells (forA G) 148))
  have HA := Lib.hid (forA_size G)
  have HRI := Lib.hid (right_is (w.alloc (.cells (forA G) 148)) hG)
  have HZ : Hid ((w.alloc (.cells (forA G) 148)).heap.size = w.heap.size + 1) := Lib.hid (by simp)
  clear hG
  obtain ⟨A, hA⟩ : ∃ A, A = forA G := ⟨_, rfl⟩
  rw [← hA] at HR0 HB HA HRI HZ ⊢
  have HAE := Lib.hid hA
  clear hA
  have l0 : (ldR 148 (.pointer (some ⟨w.heap.size, 0, none⟩))).run Tryz.prog (w.alloc (.cells A 148)) = .ok (.agg A) (w.alloc (.cells A 148)) := HR0.out.ld0 Tryz.underlying148 rfl (by rw [HA.out]; kernel_rfl)
  go_enter Tryz.func57, Tryz.ntmps57
  go_upto_region 1 with fail
  generalize w.alloc (.cells A 148) = w0 at *
  go_upto_region 2 with (go_at_call 115; refine HRI.out.mono ?_; rintro e1 w1 ⟨rfl, hb1⟩)
  have HR1 := Lib.hid (HR0.out.keep hb1)
  have HB1 := Lib.hid (HB.out.trans (hb1.mono HB.out.size))
  have HZ1 : Hid (w.heap.size + 1 ≤ w1.heap.size) := Lib.hid (by rw [← HZ.out]; exact hb1.size)
  clear HRI HR0 HB HZ l0 hb1
  go_wp2_with fail
  go_loopw [5, 15] (fun ov kv wr => ∃ k v, k ≤ 4 ∧ v = ov ∧ kv = .int .i64 (k : Nat) ∧ Hid (Below (w.heap.size + 1) w1 wr) ∧ Hid (OB (w.heap.size + 1) wr v (pkN G (k * 16)))) (fun ov kv _ => 4 - (intOf kv).toNat)
  case atStart => exact ⟨0, _, by omega, rfl, rfl, Lib.hid (Below.refl _ _), Lib.hid (OB.nil _ _)⟩
  case round =>
    obtain ⟨k, v, hk0, rfl, rfl, HB, HO⟩ := hrel
    by_cases hk : k < 4
    · have i0 : (0 : Int) ≤ k := by omega
      have i1 : (k : Int) < 4 := by omega
      have HR := Lib.hid (HR1.out.keepB HB.out (Nat.lt_succ_self _))
      have l1 : (ldR 74 (.pointer (some ⟨w.heap.size, k * 48, none⟩))).run Tryz.prog wr = .ok (.agg (nodA (fun j => G (k * 48 + j)))) wr := by
        rw [HR.out.ld (o := k * 48) (n := 16) (by rw [HA.out]; omega) Tryz.underlying74 rfl (by kernel_rfl), HAE.out, forA_nod G hk]
      have HIX := Lib.hid (show ∀ (w : World) (i : Nat), i < 16 → (ixR 74 (.agg (nodA (fun j => G (k * 48 + j)))) (.int .i64 i)).run Tryz.prog w = .ok (.int .i64 (G (k * 48 + i))) w from fun w i hi => ix_is w (fun j => G (k * 48 + j)) hi)
      generalize nodA (fun j => G (k * 48 + j)) = N at *
      go_wp2_with fail
      have HO0 : Hid (OB (w.heap.size + 1) wr v (pkN G (k * 16 + 0))) := HO
      clear l1 HR HO
      go_loopw [5, 22] (fun ov iv wr => ∃ i v, i ≤ 16 ∧ v = ov ∧ iv = .int .i64 (i : Nat) ∧ Hid (Below (w.heap.size + 1) w1 wr) ∧ Hid (OB (w.heap.size + 1) wr v (pkN G (k * 16 + i)))) (fun ov iv _ => 16 - (intOf iv).toNat)
      case atStart => exact ⟨0, _, by omega, rfl, rfl, HB, HO0⟩
      case round =>
        clear HO0 HB
        obtain ⟨i, v, hi0, rfl, rfl, HB, HO⟩ := hrel
        by_cases hi : i < 16
        · have j0 : (0 : Int) ≤ i := by omega
          have j1 : (i : Int) < 16 := by omega
          have hx := HIX.out wr i hi
          have hb := HG.out.lt k i hk hi
          have HN := Lib.hid (pkN_next G (k := k) hi)
          have HSZ : Hid (w.heap.size + 1 ≤ wr.heap.size) := Lib.hid (Nat.le_trans HZ1.out HB.out.size)
          obtain ⟨p, c', w3, hap, ho3, -, hb3⟩ := HO.out.push HSZ.out (G (k * 48 + i)) (by rw [pkN_len]; omega)
          rw [pkN_len] at hap ho3
          rw [← HN.out] at ho3
          have HO3 := Lib.hid ho3
          have HB3 := Lib.hid (HB.out.trans hb3)
          clear ho3 hb3
          generalize G (k * 48 + i) = g at *
          have y1 : IntKind.u8.wrap (g : Int) = g := by rw [IntKind.wrap_u8]; omega
          have y2 : (g : Int) % 256 = g := by omega
          clear hb
          go_wp2_with fail
          go_roundw
          case rel => exact ⟨i + 1, _, by omega, rfl, by go_num, HB3, HO3⟩
          case measure => simp [intOf]; omega
        · obtain rfl : i = 16 := by omega
          have HO4 : Hid (OB (w.heap.size + 1) wr v (pkN G ((k + 1) * 16))) := by
            have e : (k + 1) * 16 = k * 16 + 16 := by omega
            rw [e]; exact HO
          go_wp2_with fail
          go_roundw
          case rel => exact ⟨k + 1, _, by omega, rfl, by go_num, HB, HO4⟩
          case measure => simp [intOf]; omega
    · obtain rfl : k = 4 := by omega
      have HO0 : Hid (OB (w.heap.size + 1) wr v (pkS G 0)) := by
        have e : pkS G 0 = pkN G (4 * 16) := by simp [pkS]
        rw [e]; exact HO
      clear HO
      go_wp2_with fail
      go_loopw [5, 32] (fun ov kv wr => ∃ k v, k ≤ 4 ∧ v = ov ∧ kv = .int .i64 (k : Nat) ∧ Hid (Below (w.heap.size + 1) w1 wr) ∧ Hid (OB (w.heap.size + 1) wr v (pkS G k))) (fun ov kv _ => 4 - (intOf kv).toNat)
      case atStart => exact ⟨0, _, by omega, rfl, rfl, HB, HO0⟩
      case round =>
        clear HO0 HB
        obtain ⟨k, v, hk0, rfl, rfl, HB, HO⟩ := hrel
        by_cases hk : k < 4
        · have i0 : (0 : Int) ≤ k := by omega
          have i1 : (k : Int) < 4 := by omega
          have HR := Lib.hid (HR1.out.keepB HB.out (Nat.lt_succ_self _))
          have HSZ : Hid (w.heap.size + 1 ≤ wr.heap.size) := Lib.hid (Nat.le_trans HZ1.out HB.out.size)
          obtain ⟨p, c', w3, hap, ho3, -, hb3⟩ := HO.out.app HSZ.out (c := 32) (set_cells HR.out HAE.out hk) (by rw [pkS_len, setL_len]; omega)
          rw [setL_len] at hap ho3
          rw [← pkS_next] at ho3
          have HO3 := Lib.hid ho3
          have HB3 := Lib.hid (HB.out.trans hb3)
          clear ho3 hb3
          go_wp2_with fail
          go_roundw
          case rel => exact ⟨k + 1, _, by omega, rfl, by go_num, HB3, HO3⟩
          case measure => simp [intOf]; omega
        · obtain rfl : k = 4 := by omega
          go_wp2_with fail
          go_ret2
          exact ⟨_, rfl, HO.out.base (Nat.le_succ _), HB1.out.trans (HB.out.mono (Nat.le_succ _))⟩
end Go.Proofs.YtnbhohaphmilmaaGreatDoor
